/- The statement of BookTells: the call returns true for every input, and its input reads as it did. No condition. -/
import Derived.Test.YtbaafjimlbodeaaRows
import Derived.WalkKit
import Derived.ProofKit
import Derived.OpenShut
import Derived.Test.YtbaafjimlbodeaaZ1
import Derived.Test.YtbaafjimlbodeaaZ2
import Derived.Test.YtbaafjimlbodeaaZ3
import Derived.Test.YtbaafjimlbodeaaZ4
import Derived.Test.YtbaafjimlbodeaaZ5

/- What BookTells answers: true. -/
namespace Go.Proofs.Ytbaafjimlbodeaa
open Go Go.RowKit V
set_option maxRecDepth 100000
set_option linter.unusedVariables false
set_option linter.unusedSimpArgs false
theorem trn_len (l : List Po) : (Bk.trn l).length = l.length := by simp [Bk.trn]
theorem trn_at {l : List Po} {k : Nat} (h : k < l.length) : (Bk.trn l).take (k + 1) = (Bk.trn l).take k ++ [⟨(l.getD (l.length - 1 - k) default).ac, (l.getD (l.length - 1 - k) default).ut, 0 - (l.getD (l.length - 1 - k) default).am⟩] := by
  rw [List.take_succ_eq_append_getElem (by rw [trn_len]; exact h)]
  congr 2
  unfold Bk.trn
  rw [List.getElem_reverse, List.getElem_map]
  simp only [List.length_map]
  rw [← getD_at (show l.length - 1 - k < l.length by omega)]
  rfl
set_option maxHeartbeats 4000000 in
theorem v_bookTells (b : List Po) (wb : ∀ f ∈ b, WfPo f) (l : List Po) (wl : ∀ f ∈ l, WfPo f) (account : Int) (w_account : (Lit.int .i64 account).wf = true) (unit : Int) (w_unit : (Lit.int .i64 unit).wf = true) : V.Fn Try.prog 3 [.arr 3 b.length (ga encP b), .arr 3 l.length (ga encP l)] [.one (.ref 0), .one (.ref 1), .one (.val (.int .i64 account)), .one (.val (.int .i64 unit))] (.bool true) := by
  clear wb wl w_account w_unit
  refine V.Fn.lim (by kernel_rfl) fun hl => ?_
  have hb : b.length ≤ 9223372036854775807 := by have := hl 0 _ _ _ rfl; omega
  have hn : l.length ≤ 9223372036854775807 := by have := hl 1 _ _ _ rfl; omega
  clear hl
  have c1 := v_bkPost b l hb hn
  have c2 := v_bkBalance b account unit hb
  have c3 := v_bkTurn l hn
  have c4 := v_bkTrial b hb
  have c5 := v_rPost b l hb hn
  have c6 := v_rLines b hb
  have c7 := v_rAt b account unit hb
  have c8 := v_rPostsC l hn
  have c9 := v_rTrial b hb
  have c10 := v_bkCheck l hn
  have c11 := v_bkLines b hb
  have pn : (Bk.pL b l).length ≤ 9223372036854775807 := by
    unfold Bk.pL
    split
    · have := Bk.out_len (Bk.tot (b ++ l)) 2121; omega
    · decide
  have tn : (Bk.tL l).length ≤ 9223372036854775807 := by
    unfold Bk.tL
    split
    · rw [trn_len]; exact hn
    · decide
  have vn : (Bk.tV b).length ≤ 9223372036854775807 := by
    unfold Bk.tV
    split
    · simp
    · decide
  have s1 := v_sameposts (Bk.pL b l) (Bk.pL b l) pn
  have s2 := v_sameposts (Bk.tL l) (Bk.tL l) tn
  have s3 := v_sameints (Bk.tV b) (Bk.tV b) vn
  rw [decide_eq_true rfl] at s1 s2 s3
  have e1 : Bk.lines b ≠ 0 → Bk.bE b account unit = Bk.lines b := fun h => if_pos h
  have e2 : Bk.lines b = 0 → ¬ Bk.Kn account unit → Bk.bE b account unit = 3 := fun h h2 => (if_neg (fun z => z h)).trans (if_neg h2)
  have e3 : Bk.lines b = 0 → Bk.Kn account unit → Bk.bE b account unit = 0 := fun h h2 => (if_neg (fun z => z h)).trans (if_pos h2)
  have v0 : Bk.bE b account unit ≠ 0 → Bk.bV b account unit = 0 := fun h => if_neg h
  have v1 : Bk.bE b account unit = 0 → Bk.bV b account unit = Bk.amAt b account unit := fun h => if_pos h
  unfold Bk.Kn at e2 e3
  have lc := @Bk.chk_0 l
  have t0 : Bk.chk l = 0 → Bk.tL l = Bk.trn l := fun h => if_pos h
  have t1 : ¬ Bk.chk l = 0 → Bk.tL l = [] := fun h => if_neg h
  generalize Bk.pL b l = PL at *
  generalize Bk.pE b l = PE at *
  generalize Bk.bV b account unit = BV at *
  generalize Bk.bE b account unit = BE at *
  generalize Bk.tV b = TV at *
  generalize Bk.tE b = TE at *
  generalize Bk.amAt b account unit = AT at *
  generalize Bk.chk l = C at *
  generalize Bk.lines b = L at *
  refine V.Fn.mk_ V.Tok V.mixed Try.func3 rfl Try.ntmps3 (by kernel_rfl) rfl rfl ?_
  repeat' ((conv => whnf); first | (refine V.NIf.yes ?_ ?_; · (decide; done)) | (refine V.NIf.no ?_ ?_; · (decide; done)) | (refine V.NIf.yes ?_ ?_; · (simp only [true_and, and_true, and_self]; done)) | refine V.NCond.mk ?_ | refine V.NIf.not_ ?_ | refine V.NIf.dec_ ?_ | refine V.NIf.no (by omega) ?_ | refine V.NIf.yes (by omega) ?_ | refine V.NIf.mk (fun _ => ?_) (fun _ => ?_) | refine V.NWrap.ok (by omega) (by omega) ?_ | refine V.NWrap.u64 (by omega) (by omega) ?_ | refine V.NLt.mk (by omega) ?_ | refine V.NBoth.mk ?_ ?_ | refine V.NTF.yes (by omega) ?_ | refine V.NTF.no (by omega) ?_ | refine V.NTF.dec ?_ | refine V.NDraw.q (by exact rfl) (by kernel_rfl) ?_ | refine V.NApp.one (by first | omega | (simp; omega)) (by first | omega | (simp; omega)) ?_ | ((first | refine V.FnR.k_ (c1) [0, 1] rfl ?_ ?_ | refine V.FnR.a_ (c1) [0, 1] rfl ?_ ?_); · ((repeat' (first | exact rfl | exact Iff.rfl | exact trivial | exact (fun _ _ => rfl) | exact (fun _ h => absurd h (Nat.not_lt_zero _)) | refine ⟨?_, ?_⟩ | exact Iff.rfl | exact congrArg (fun z => V.SV.one (V.At.val (Value.int .i64 z))) (by omega))); done)) | ((first | refine V.Fn.k (c2) [0] rfl ?_ ?_ | refine V.Fn.q (c2) [0] rfl ?_ ?_ | refine V.Fn.a (c2) [0] rfl ?_ ?_); · ((repeat' (first | exact rfl | exact Iff.rfl | exact trivial | exact (fun _ _ => rfl) | exact (fun _ h => absurd h (Nat.not_lt_zero _)) | refine ⟨?_, ?_⟩ | exact Iff.rfl | exact congrArg (fun z => V.SV.one (V.At.val (Value.int .i64 z))) (by omega))); done)) | ((first | refine V.FnR.k_ (c3) [1] rfl ?_ ?_ | refine V.FnR.a_ (c3) [1] rfl ?_ ?_); · ((repeat' (first | exact rfl | exact Iff.rfl | exact trivial | exact (fun _ _ => rfl) | exact (fun _ h => absurd h (Nat.not_lt_zero _)) | refine ⟨?_, ?_⟩ | exact Iff.rfl | exact congrArg (fun z => V.SV.one (V.At.val (Value.int .i64 z))) (by omega))); done)) | ((first | refine V.FnR.k_ (c4) [0] rfl ?_ ?_ | refine V.FnR.a_ (c4) [0] rfl ?_ ?_); · ((repeat' (first | exact rfl | exact Iff.rfl | exact trivial | exact (fun _ _ => rfl) | exact (fun _ h => absurd h (Nat.not_lt_zero _)) | refine ⟨?_, ?_⟩ | exact Iff.rfl | exact congrArg (fun z => V.SV.one (V.At.val (Value.int .i64 z))) (by omega))); done)) | ((first | refine V.FnR.k_ (c5) [0, 1] rfl ?_ ?_ | refine V.FnR.a_ (c5) [0, 1] rfl ?_ ?_); · ((repeat' (first | exact rfl | exact Iff.rfl | exact trivial | exact (fun _ _ => rfl) | exact (fun _ h => absurd h (Nat.not_lt_zero _)) | refine ⟨?_, ?_⟩ | exact Iff.rfl | exact congrArg (fun z => V.SV.one (V.At.val (Value.int .i64 z))) (by omega))); done)) | ((first | refine V.Fn.k (c6) [0] rfl ?_ ?_ | refine V.Fn.q (c6) [0] rfl ?_ ?_ | refine V.Fn.a (c6) [0] rfl ?_ ?_); · ((repeat' (first | exact rfl | exact Iff.rfl | exact trivial | exact (fun _ _ => rfl) | exact (fun _ h => absurd h (Nat.not_lt_zero _)) | refine ⟨?_, ?_⟩ | exact Iff.rfl | exact congrArg (fun z => V.SV.one (V.At.val (Value.int .i64 z))) (by omega))); done)) | ((first | refine V.Fn.k (c7) [0] rfl ?_ ?_ | refine V.Fn.q (c7) [0] rfl ?_ ?_ | refine V.Fn.a (c7) [0] rfl ?_ ?_); · ((repeat' (first | exact rfl | exact Iff.rfl | exact trivial | exact (fun _ _ => rfl) | exact (fun _ h => absurd h (Nat.not_lt_zero _)) | refine ⟨?_, ?_⟩ | exact Iff.rfl | exact congrArg (fun z => V.SV.one (V.At.val (Value.int .i64 z))) (by omega))); done)) | ((first | refine V.Fn.k (c8) [1] rfl ?_ ?_ | refine V.Fn.q (c8) [1] rfl ?_ ?_ | refine V.Fn.a (c8) [1] rfl ?_ ?_); · ((repeat' (first | exact rfl | exact Iff.rfl | exact trivial | exact (fun _ _ => rfl) | exact (fun _ h => absurd h (Nat.not_lt_zero _)) | refine ⟨?_, ?_⟩ | exact Iff.rfl | exact congrArg (fun z => V.SV.one (V.At.val (Value.int .i64 z))) (by omega))); done)) | (refine V.NDraw.any (by kernel_rfl) ?_) | fail)
  all_goals (conv => whnf)
  all_goals refine V.NLoop.auto (fun (k : Nat) => [(23, .one (.val (.int .i64 ((l.length : Int) - 1 - k)))), (22, .one (.ref 6))]) (fun (k : Nat) => [(6, .row 35 3 ((Bk.trn l).take k).length (ga encP ((Bk.trn l).take k)))]) [] [] (fun (k : Nat) => l.length - k) (fun (k : Nat) => k ≤ l.length ∧ (C = 0 ∨ k = 0)) 0 ⟨Nat.zero_le _, .inr rfl⟩ (by repeat' (first | exact rfl | exact Iff.rfl | exact trivial | exact (fun _ _ => rfl) | exact (fun _ h => absurd h (Nat.not_lt_zero _)) | refine ⟨?_, ?_⟩ | exact Iff.rfl | exact congrArg (fun z => V.SV.one (V.At.val (Value.int .i64 z))) (by omega))) (by repeat' (first | exact rfl | exact Iff.rfl | exact trivial | exact (fun _ _ => rfl) | exact (fun _ h => absurd h (Nat.not_lt_zero _)) | refine ⟨?_, ?_⟩ | exact Iff.rfl | exact congrArg (fun z => V.SV.one (V.At.val (Value.int .i64 z))) (by omega))) (fun _ => ⟨rfl, rfl⟩) ?_; (conv => whnf); refine ⟨⟨rfl, rfl⟩, ?_⟩
  all_goals (rintro k ⟨hk, hJ⟩)
  all_goals by_cases hw : k < l.length ∧ C = 0
  all_goals first
    | (obtain ⟨hlt, hC⟩ := hw
       obtain ⟨⟨_, l60⟩, R, _⟩ := lc hC
       have sn := trn_at hlt
       have am := (R _ (getD_mem (show l.length - 1 - k < l.length by omega))).2.1
       unfold M.Amt at am
       have tl : ((Bk.trn l).take k).length = k := by rw [List.length_take, trn_len]; omega
       clear c1 c2 c3 c4 c5 c6 c7 c8 c9 c10 c11 s1 s2 s3 e1 e2 e3 v0 v1 lc t0 t1 pn tn vn R
       repeat' ((conv => whnf); first | (refine NApp.one (en := encP) (l := (Bk.trn l).take k) (x := ⟨(l.getD (l.length - 1 - k) default).ac, (l.getD (l.length - 1 - k) default).ut, 0 - (l.getD (l.length - 1 - k) default).am⟩) (by simp; omega) (by simp; omega) ?_) | refine V.NCond.mk ?_ | refine V.NIf.not_ ?_ | refine V.NIf.dec_ ?_ | refine V.NIf.no (by omega) ?_ | refine V.NIf.yes (by omega) ?_ | refine V.NIf.mk (fun _ => ?_) (fun _ => ?_) | refine V.NWrap.ok (by omega) (by omega) ?_ | refine V.NWrap.u64 (by omega) (by omega) ?_ | refine V.NLt.mk (by omega) ?_ | refine V.NBoth.mk ?_ ?_ | refine V.NTF.yes (by omega) ?_ | refine V.NTF.no (by omega) ?_ | refine V.NTF.dec ?_ | refine V.NDraw.q (by exact rfl) (by kernel_rfl) ?_ | refine V.NApp.one (by first | omega | (simp; omega)) (by first | omega | (simp; omega)) ?_ | (refine NIdx.mk ⟨l.length - 1 - k, by omega, by omega, ?_⟩) | (refine V.NDraw.any (by kernel_rfl) ?_) | fail)
       (conv => whnf)
       exact V.NBack.at_ (k + 1) [(6, 8)] ⟨by omega, .inl hC⟩ (by omega) (by repeat' (first | exact rfl | exact Iff.rfl | exact trivial | exact (fun _ _ => rfl) | exact (fun _ h => absurd h (Nat.not_lt_zero _)) | refine ⟨?_, ?_⟩ | exact Iff.rfl | exact congrArg (fun z => V.SV.one (V.At.val (Value.int .i64 z))) (by omega))) rfl ⟨ObLe.as_ sn, trivial⟩ (by repeat' (first | exact rfl | exact Iff.rfl | exact trivial | exact (fun _ _ => rfl) | exact (fun _ h => absurd h (Nat.not_lt_zero _)) | refine ⟨?_, ?_⟩ | exact Iff.rfl | exact congrArg (fun z => V.SV.one (V.At.val (Value.int .i64 z))) (by omega))) (by repeat' (first | exact rfl | exact Iff.rfl | exact trivial | exact (fun _ _ => rfl) | exact (fun _ h => absurd h (Nat.not_lt_zero _)) | refine ⟨?_, ?_⟩ | exact Iff.rfl | exact congrArg (fun z => V.SV.one (V.At.val (Value.int .i64 z))) (by omega))))
    | (have TT : (Bk.trn l).take k = Bk.tL l := by
         by_cases hC : C = 0
         · rw [t0 hC, List.take_of_length_le (by rw [trn_len]; omega)]
         · rw [t1 hC, show k = 0 by omega]; rfl
       rw [TT]
       clear TT lc t0 t1 pn tn vn c1 c2 c3 c4 c5 c7 c8
       repeat' ((conv => whnf); first | (refine V.NIf.yes ?_ ?_; · (decide; done)) | (refine V.NIf.no ?_ ?_; · (decide; done)) | (refine V.NIf.yes ?_ ?_; · (simp only [true_and, and_true, and_self]; done)) | refine V.NCond.mk ?_ | refine V.NIf.not_ ?_ | refine V.NIf.dec_ ?_ | refine V.NIf.no (by omega) ?_ | refine V.NIf.yes (by omega) ?_ | refine V.NIf.mk (fun _ => ?_) (fun _ => ?_) | refine V.NWrap.ok (by omega) (by omega) ?_ | refine V.NWrap.u64 (by omega) (by omega) ?_ | refine V.NLt.mk (by omega) ?_ | refine V.NBoth.mk ?_ ?_ | refine V.NTF.yes (by omega) ?_ | refine V.NTF.no (by omega) ?_ | refine V.NTF.dec ?_ | refine V.NDraw.q (by exact rfl) (by kernel_rfl) ?_ | refine V.NApp.one (by first | omega | (simp; omega)) (by first | omega | (simp; omega)) ?_ | ((first | refine V.FnR.k_ (c9) [0] rfl ?_ ?_ | refine V.FnR.a_ (c9) [0] rfl ?_ ?_); · ((repeat' (first | exact rfl | exact Iff.rfl | exact trivial | exact (fun _ _ => rfl) | exact (fun _ h => absurd h (Nat.not_lt_zero _)) | refine ⟨?_, ?_⟩ | exact Iff.rfl | exact congrArg (fun z => V.SV.one (V.At.val (Value.int .i64 z))) (by omega))); done)) | (first | refine V.Fn.k0 (v_bkBegun) rfl ?_ | refine V.Fn.q0 (v_bkBegun) rfl ?_ | refine V.Fn.a0 (v_bkBegun) rfl ?_) | ((first | refine V.Fn.k (c10) [1] rfl ?_ ?_ | refine V.Fn.q (c10) [1] rfl ?_ ?_ | refine V.Fn.a (c10) [1] rfl ?_ ?_); · ((repeat' (first | exact rfl | exact Iff.rfl | exact trivial | exact (fun _ _ => rfl) | exact (fun _ h => absurd h (Nat.not_lt_zero _)) | refine ⟨?_, ?_⟩ | exact Iff.rfl | exact congrArg (fun z => V.SV.one (V.At.val (Value.int .i64 z))) (by omega))); done)) | ((first | refine V.Fn.k (c11) [0] rfl ?_ ?_ | refine V.Fn.q (c11) [0] rfl ?_ ?_ | refine V.Fn.a (c11) [0] rfl ?_ ?_); · ((repeat' (first | exact rfl | exact Iff.rfl | exact trivial | exact (fun _ _ => rfl) | exact (fun _ h => absurd h (Nat.not_lt_zero _)) | refine ⟨?_, ?_⟩ | exact Iff.rfl | exact congrArg (fun z => V.SV.one (V.At.val (Value.int .i64 z))) (by omega))); done)) | ((first | refine V.Fn.k (c6) [0] rfl ?_ ?_ | refine V.Fn.q (c6) [0] rfl ?_ ?_ | refine V.Fn.a (c6) [0] rfl ?_ ?_); · ((repeat' (first | exact rfl | exact Iff.rfl | exact trivial | exact (fun _ _ => rfl) | exact (fun _ h => absurd h (Nat.not_lt_zero _)) | refine ⟨?_, ?_⟩ | exact Iff.rfl | exact congrArg (fun z => V.SV.one (V.At.val (Value.int .i64 z))) (by omega))); done)) | ((first | refine V.Fn.k (s1) [2, 5] rfl ?_ ?_ | refine V.Fn.q (s1) [2, 5] rfl ?_ ?_ | refine V.Fn.a (s1) [2, 5] rfl ?_ ?_); · ((repeat' (first | exact rfl | exact Iff.rfl | exact trivial | exact (fun _ _ => rfl) | exact (fun _ h => absurd h (Nat.not_lt_zero _)) | refine ⟨?_, ?_⟩ | exact Iff.rfl | exact congrArg (fun z => V.SV.one (V.At.val (Value.int .i64 z))) (by omega))); done)) | ((first | refine V.Fn.k (s2) [3, 6] rfl ?_ ?_ | refine V.Fn.q (s2) [3, 6] rfl ?_ ?_ | refine V.Fn.a (s2) [3, 6] rfl ?_ ?_); · ((repeat' (first | exact rfl | exact Iff.rfl | exact trivial | exact (fun _ _ => rfl) | exact (fun _ h => absurd h (Nat.not_lt_zero _)) | refine ⟨?_, ?_⟩ | exact Iff.rfl | exact congrArg (fun z => V.SV.one (V.At.val (Value.int .i64 z))) (by omega))); done)) | ((first | refine V.Fn.k (s3) [4, 7] rfl ?_ ?_ | refine V.Fn.q (s3) [4, 7] rfl ?_ ?_ | refine V.Fn.a (s3) [4, 7] rfl ?_ ?_); · ((repeat' (first | exact rfl | exact Iff.rfl | exact trivial | exact (fun _ _ => rfl) | exact (fun _ h => absurd h (Nat.not_lt_zero _)) | refine ⟨?_, ?_⟩ | exact Iff.rfl | exact congrArg (fun z => V.SV.one (V.At.val (Value.int .i64 z))) (by omega))); done)) | (refine V.NDraw.any (by kernel_rfl) ?_) | fail)
       all_goals (conv => whnf)
       all_goals first
         | (first | exact ⟨_, rfl, iff_of_true (by omega) rfl⟩ | (exfalso; omega) | exact ⟨_, rfl, by simp; omega⟩ | exact ⟨_, rfl, by simp⟩)
         | trace_state)
    | trace_state
end Go.Proofs.Ytbaafjimlbodeaa

/- The statement of BookTells: for every input the call returns true and its input reads as it did. No condition. -/
namespace Go.Proofs.Ytbaafjimlbodeaa.bookTells
open Go.ChangeShapes Go.WideShapes Go.ChangeAt Go.RowKit

theorem own : ownKnob Try.prog.godebug = none := by kernel_rfl

set_option maxRecDepth 100000 in
theorem lifted (os : Os) (started : os.Started) (H : Type) (enc : TypeId × Value → H) :
    ReturnsInHanded {} Try.checked os 3 .any (Rows.bookTellsSpec.pre6 enc Try.prog Try.f3 Rows.bookTellsRow.domain false) (Rows.bookTellsSpec.post enc Try.prog Try.f3 false true false false) := by
  refine returnsInHanded_of_change (C := Try.checked) own started (by kernel_rfl) Try.func3
    (ChangeSpec.witness6 (enc := enc) (C := Try.checked) false ⟨#[], #[.slice none 0 0, .slice none 0 0, .int .i64 0, .int .i64 0], []⟩ 8 (by kernel_rfl) (by kernel_rfl) (by kernel_rfl) (by kernel_rfl)) ?_
  intro W base args ds gs before hval0 hW _ _
  have hval : ∀ (j : Nat) t v, Try.f3.params[j]? = some t → args[j]? = some v → Value.okWide Try.prog W .any base t v := hval0
  have hW' := hW
  obtain ⟨p, q, hA0, hV, rfl, hfz, hnd⟩ := hW
  have hA : DataW.TrodAll enc Try.prog W 0 (fun _ => true) true Try.f3.params.toList args.toList ds p := hA0
  rw [Try.params3] at hA hval
  obtain ⟨v0, vs0, d0, ds0, p0, q0, hargs, rfl, rfl, h0, r0⟩ := trodAll_cons hA
  obtain ⟨v1, vs1, d1, ds1, p1, q1, rfl, rfl, rfl, h1, r1⟩ := trodAll_cons r0
  obtain ⟨v2, vs2, d2, ds2, p2, q2, rfl, rfl, rfl, h2, r2⟩ := trodAll_cons r1
  obtain ⟨v3, vs3, d3, ds3, p3, q3, rfl, rfl, rfl, h3, r3⟩ := trodAll_cons r2
  obtain ⟨rfl, rfl, rfl⟩ := trodAll_nil r3
  obtain rfl : args = #[v0, v1, v2, v3] := by cases args; simp_all
  obtain ⟨rfl, rfl⟩ := trodVars_none hV
  obtain ⟨l0, hl0, w0⟩ := open_pos Try.underlying22 (hval 0 22 v0 rfl rfl) h0
  obtain ⟨l1, hl1, w1⟩ := open_pos Try.underlying22 (hval 1 22 v1 rfl rfl) h1
  obtain ⟨a2, rfl, rfl, rfl, w2⟩ := open_int Try.underlying3 (hval 2 3 v2 rfl rfl) h2
  obtain ⟨a3, rfl, rfl, rfl, w3⟩ := open_int Try.underlying3 (hval 3 3 v3 rfl rfl) h3
  clear hval0
  simp only [List.append_nil] at hW'
  refine ((v_bookTells l0 w0 l1 w1 a2 w2 a3 w3).c W (fun i => [v0, v1][i]?) [_, _, _, _] (fun i o ho => by
      rcases i with _ | i
      · obtain rfl := Option.some.inj ho
        exact ⟨v0, rfl, hl0⟩
      rcases i with _ | i
      · obtain rfl := Option.some.inj ho
        exact ⟨v1, rfl, hl1⟩
      simp at ho
) ⟨_, _, rfl, ⟨rfl, hl0.one⟩, ⟨_, _, rfl, ⟨rfl, hl1.one⟩, ⟨_, _, rfl, rfl, ⟨_, _, rfl, rfl, rfl⟩⟩⟩⟩).mono fun e W' ⟨he, hg⟩ => ?_
  subst he
  exact ⟨_, rfl, post_of_below (pa := _) (pv := []) hW' (fun _ _ _ => (trodAll_cons_mk (shut_bool Try.underlying4 _) trodAll_mk0)) (fun sp hsp => all_stays laidOut (by kernel_rfl) hA0 (fun x hx => hg.same (hW'.lt x (by revert hx; simp))) (fun x hx => hsp x (by revert hx; simp))) (fun _ _ => rfl) (by simp)
    hg (ok_one (by kernel_rfl) rfl (okWide_bool_mk Try.underlying4 _))⟩

theorem over : Rows.bookTellsRow.holds Try.pinned (OpenSpec.ofChange Rows.bookTellsSpec) :=
  OpenClaim.holds_of_wide 3 Try.f3 rfl rfl rfl rfl rfl rfl rfl ⟨rfl, rfl, rfl, rfl, rfl⟩ rfl rfl rfl rfl rfl (by kernel_rfl) Try.func3 (by kernel_rfl)
    (of_decide_eq_true (by kernel_rfl)) (by unfold Func.isWrapper; first | (rw [if_pos (by decide +kernel)]; kernel_rfl) | (rw [if_neg (by decide +kernel)]; exact ⟨rfl, rfl⟩))
    (fun os started H enc _ => lifted os started H enc)

theorem proved : Rows.BookTellsSaid :=
  over
end Go.Proofs.Ytbaafjimlbodeaa.bookTells
