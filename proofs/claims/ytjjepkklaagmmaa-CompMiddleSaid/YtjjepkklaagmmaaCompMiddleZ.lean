/- The statement of CompMiddle: the call returns true for every input, and its input reads as it did. No condition. -/
import Derived.Test.YtjjepkklaagmmaaRows
import Derived.WalkKit
import Derived.ProofKit
import Derived.OpenShut
import Derived.Test.YtjjepkklaagmmaaZ1
import Derived.Test.YtjjepkklaagmmaaZ2
import Derived.Test.YtjjepkklaagmmaaZ3
import Derived.Test.YtjjepkklaagmmaaZ4
import Derived.Test.YtjjepkklaagmmaaZ5
import Derived.Test.YtjjepkklaagmmaaZ6

/- What CompMiddle answers: true. -/
namespace Go.Proofs.Ytjjepkklaagmmaa
open Go Go.RowKit V
set_option maxRecDepth 100000
set_option linter.unusedVariables false
set_option linter.unusedSimpArgs false
set_option maxHeartbeats 4000000 in
theorem v_compMiddle (l : List Int) (wl : ∀ x ∈ l, (Lit.int .i64 x).wf = true) (by_ : Int) (w_by_ : (Lit.int .i64 by_).wf = true) : V.Fn Try.prog 5 [.arr 1 l.length (ga e1 l)] [.one (.ref 0), .one (.val (.int .i64 by_))] (.bool true) := by
  clear wl w_by_
  refine V.Fn.lim (by kernel_rfl) fun hl => ?_
  have nl : l.length ≤ 9223372036854775807 := by have := hl 0 _ _ _ rfl; omega
  clear hl
  have c1 := v_cpMiddle l nl
  by_cases h : Cp.mE l = 0
  · obtain ⟨n0, n1, ok⟩ := Cp.m_ok h
    obtain ⟨_, b⟩ := Cp.m_yes n0 n1 ok
    have ne : l ≠ [] := fun z => n0 (by rw [z]; rfl)
    rw [h, b] at c1
    obtain ⟨m1, m2⟩ := Cp.med_at ne
    have m3 := Cp.gt_le (Cp.med l) l
    have mm := Cp.med_mem ne
    generalize hr0 : by_.tmod (l.length : Int) = r0 at *
    have t0 : -(l.length : Int) < r0 ∧ r0 < l.length := by rw [← hr0]; exact ⟨Int.lt_tmod_of_pos by_ (by omega), Int.tmod_lt_of_pos _ (by omega)⟩
    obtain ⟨r, hr, er⟩ : ∃ r : Nat, r < l.length ∧ ((r0 + l.length) % (l.length : Int)) = r := ⟨((r0 + l.length) % (l.length : Int)).toNat, by have := Int.emod_lt_of_pos (r0 + l.length) (show (0 : Int) < l.length by omega); have := Int.emod_nonneg (r0 + l.length) (show (l.length : Int) ≠ 0 by omega); omega, by have := Int.emod_nonneg (r0 + l.length) (show (l.length : Int) ≠ 0 by omega); omega⟩
    have c2 := v_cpMiddle (Cp.rot l r) (by rw [Cp.rot_len]; exact nl)
    obtain ⟨a2, b2⟩ := Cp.m_yes (l := Cp.rot l r) (by rw [Cp.rot_len]; exact n0) (by rw [Cp.rot_len]; exact n1) (fun p hp => ok p ((Cp.rot_perm l r).mem_iff.1 hp))
    rw [a2, b2, Cp.med_perm (Cp.rot_perm l r)] at c2
    have rt := fun k => @Cp.rot_at l r k hr
    have rn := Cp.rot_len l r
    clear h b a2 b2 ok
    generalize Cp.med l = m at *
    refine V.Fn.mk_ V.Tok V.mixed Try.func5 rfl Try.ntmps5 (by kernel_rfl) rfl rfl ?_
    repeat' ((conv => whnf); first | (refine V.NIf.yes ?_ ?_; · (decide; done)) | (refine V.NIf.no ?_ ?_; · (decide; done)) | (refine V.NIf.yes ?_ ?_; · (simp only [true_and, and_true, and_self]; done)) | refine V.NCond.mk ?_ | refine V.NIf.not_ ?_ | refine V.NIf.dec_ ?_ | refine V.NIf.no (by omega) ?_ | refine V.NIf.yes (by omega) ?_ | refine V.NIf.mk (fun _ => ?_) (fun _ => ?_) | refine V.NWrap.ok (by omega) (by omega) ?_ | refine V.NWrap.u64 (by omega) (by omega) ?_ | refine V.NLt.mk (by omega) ?_ | refine V.NBoth.mk ?_ ?_ | refine V.NTF.yes (by omega) ?_ | refine V.NTF.no (by omega) ?_ | refine V.NTF.dec ?_ | refine V.NDraw.q (by exact rfl) (by kernel_rfl) ?_ | refine V.NApp.one (by first | omega | (simp; omega)) (by first | omega | (simp; omega)) ?_ | ((first | refine V.Fn.k (c1) [0] rfl ?_ ?_ | refine V.Fn.q (c1) [0] rfl ?_ ?_ | refine V.Fn.a (c1) [0] rfl ?_ ?_); · ((repeat' (first | exact rfl | exact Iff.rfl | exact trivial | exact (fun _ _ => rfl) | exact (fun _ h => absurd h (Nat.not_lt_zero _)) | refine ⟨?_, ?_⟩ | exact Iff.rfl | exact congrArg (fun z => V.SV.one (V.At.val (Value.int .i64 z))) (by omega))); done)) | (first | refine V.Fn.k0 (v_cpBegun) rfl ?_ | refine V.Fn.q0 (v_cpBegun) rfl ?_ | refine V.Fn.a0 (v_cpBegun) rfl ?_) | (refine V.NDraw.any (by kernel_rfl) ?_) | fail)
    all_goals (conv => whnf)
    refine V.NLoop.auto (fun (k : Nat) => [(12, .one (.val (.int .i64 k))), (7, .one (.val (.int .i64 (Cp.lt m (l.take k))))), (8, .one (.val (.int .i64 (Cp.gt m (l.take k))))), (9, .one (.prop (m ∈ l.take k))), (10, .one (.ref 1))]) (fun (k : Nat) => [(1, .row 3 1 ((Cp.rot l r).take k).length (ga e1 ((Cp.rot l r).take k)))]) [] [] (fun (k : Nat) => l.length - k) (fun (k : Nat) => k ≤ l.length) 0 (Nat.zero_le _) (by (conv => whnf); exact ⟨rfl, rfl, rfl, iff_of_false (by decide) (by simp), rfl, trivial⟩) (by (conv => whnf); exact ⟨⟨rfl, rfl, by simp, fun k hk => absurd hk (Nat.not_lt_zero _)⟩, trivial⟩) (fun _ => ⟨rfl, rfl⟩) ?_; (conv => whnf); refine ⟨⟨rfl, rfl⟩, ?_⟩
    rintro k hk
    have b1 := Cp.cnt_len (fun y => decide (y < m)) l k
    have b2 := Cp.cnt_len (fun y => decide (m < y)) l k
    have tl : ((Cp.rot l r).take k).length = k := by rw [List.length_take, rn]; omega
    by_cases hlt : k < l.length
    · have rt := rt k hlt
      have s1 := Cp.cnt_snoc (p := fun y => decide (y < m)) hlt
      have s2 := Cp.cnt_snoc (p := fun y => decide (m < y)) hlt
      have s3 : m ∈ l.take (k + 1) ↔ (m ∈ l.take k ∨ l.getD k default = m) := by
        rw [List.take_succ_eq_append_getElem hlt, ← getD_at hlt, List.mem_append, List.mem_singleton, eq_comm (a := m)]
      have p1 : decide (l.getD k default < m) = true ↔ l.getD k default < m := decide_eq_true_iff
      have p2 : decide (m < l.getD k default) = true ↔ m < l.getD k default := decide_eq_true_iff
      have u1 : l.getD k default < m → Cp.lt m (l.take (k + 1)) = Cp.lt m (l.take k) + 1 := fun h => by unfold Cp.lt; rw [s1, if_pos (p1.2 h)]
      have u2 : ¬ l.getD k default < m → Cp.lt m (l.take (k + 1)) = Cp.lt m (l.take k) := fun h => by unfold Cp.lt; rw [s1, if_neg (fun z => h (p1.1 z))]; rfl
      have u3 : m < l.getD k default → Cp.gt m (l.take (k + 1)) = Cp.gt m (l.take k) + 1 := fun h => by unfold Cp.gt; rw [s2, if_pos (p2.2 h)]
      have u4 : ¬ m < l.getD k default → Cp.gt m (l.take (k + 1)) = Cp.gt m (l.take k) := fun h => by unfold Cp.gt; rw [s2, if_neg (fun z => h (p2.1 z))]; rfl
      have v1 : Cp.lt m (l.take k) ≤ k := b1
      have v2 : Cp.gt m (l.take k) ≤ k := b2
      have t2 : ((k : Int) + r).tmod (l.length : Int) = (((k + r) % l.length : Nat) : Int) := by rw [Int.tmod_eq_emod_of_nonneg (by omega), ← Int.natCast_add, ← Int.natCast_emod]
      have t1 : (r0 + (l.length : Int)).tmod (l.length : Int) = r := by rw [Int.tmod_eq_emod_of_nonneg (by omega), er]
      have lb := Nat.mod_lt (k + r) (show 0 < l.length by omega)
      clear s1 s2 p1 p2 b1 b2 c1 c2 m1 m2 m3
      repeat' ((conv => whnf); first | (refine V.NRem.mk (x := by_) (by omega) ?_; rw [hr0]) | (refine V.NRem.mk (x := r0 + (l.length : Int)) (by omega) ?_; rw [t1]) | (refine V.NRem.mk (x := (k : Int) + r) (by omega) ?_; rw [t2]) | (refine NApp.one (en := e1) (l := (Cp.rot l r).take k) (x := l.getD ((k + r) % l.length) default) (by simp; omega) (by simp; omega) ?_) | refine V.NCond.mk ?_ | refine V.NIf.not_ ?_ | refine V.NIf.dec_ ?_ | refine V.NIf.no (by omega) ?_ | refine V.NIf.yes (by omega) ?_ | refine V.NIf.mk (fun _ => ?_) (fun _ => ?_) | refine V.NWrap.ok (by omega) (by omega) ?_ | refine V.NWrap.u64 (by omega) (by omega) ?_ | refine V.NLt.mk (by omega) ?_ | refine V.NBoth.mk ?_ ?_ | refine V.NTF.yes (by omega) ?_ | refine V.NTF.no (by omega) ?_ | refine V.NTF.dec ?_ | refine V.NDraw.q (by exact rfl) (by kernel_rfl) ?_ | refine V.NApp.one (by first | omega | (simp; omega)) (by first | omega | (simp; omega)) ?_ | (refine NIdx.mk ⟨(k + r) % l.length, rfl, lb, ?_⟩) | (refine NIdx.mk ⟨k, rfl, by omega, ?_⟩) | (refine V.NDraw.any (by kernel_rfl) ?_) | fail)
      all_goals (conv => whnf)
      all_goals (refine V.NBack.at_ (k + 1) [(1, 3)] (by omega) (by omega) ⟨(by repeat' (first | exact rfl | exact Iff.rfl | exact trivial | exact (fun _ _ => rfl) | exact (fun _ h => absurd h (Nat.not_lt_zero _)) | refine ⟨?_, ?_⟩ | exact Iff.rfl | exact congrArg (fun z => V.SV.one (V.At.val (Value.int .i64 z))) (by omega))), (by repeat' (first | exact rfl | exact Iff.rfl | exact trivial | exact (fun _ _ => rfl) | exact (fun _ h => absurd h (Nat.not_lt_zero _)) | refine ⟨?_, ?_⟩ | exact Iff.rfl | exact congrArg (fun z => V.SV.one (V.At.val (Value.int .i64 z))) (by omega))), (by repeat' (first | exact rfl | exact Iff.rfl | exact trivial | exact (fun _ _ => rfl) | exact (fun _ h => absurd h (Nat.not_lt_zero _)) | refine ⟨?_, ?_⟩ | exact Iff.rfl | exact congrArg (fun z => V.SV.one (V.At.val (Value.int .i64 z))) (by omega))), ?_, rfl, trivial⟩ rfl ⟨ObLe.as_ rt, trivial⟩ (by repeat' (first | exact rfl | exact Iff.rfl | exact trivial | exact (fun _ _ => rfl) | exact (fun _ h => absurd h (Nat.not_lt_zero _)) | refine ⟨?_, ?_⟩ | exact Iff.rfl | exact congrArg (fun z => V.SV.one (V.At.val (Value.int .i64 z))) (by omega))) (by repeat' (first | exact rfl | exact Iff.rfl | exact trivial | exact (fun _ _ => rfl) | exact (fun _ h => absurd h (Nat.not_lt_zero _)) | refine ⟨?_, ?_⟩ | exact Iff.rfl | exact congrArg (fun z => V.SV.one (V.At.val (Value.int .i64 z))) (by omega))))
      all_goals first
        | exact iff_of_true rfl (s3.2 (.inl (by assumption)))
        | exact ⟨fun z => s3.2 (.inr z), fun z => (s3.1 z).resolve_left (by assumption)⟩
        | trace_state
    · obtain rfl : k = l.length := by omega
      have e2 : (Cp.rot l r).take l.length = Cp.rot l r := List.take_of_length_le (by omega)
      rw [List.take_length, e2] at *
      repeat' ((conv => whnf); first | (refine V.NIf.yes ?_ ?_; · (decide; done)) | (refine V.NIf.no ?_ ?_; · (decide; done)) | (refine V.NIf.yes ?_ ?_; · (simp only [true_and, and_true, and_self]; done)) | refine V.NCond.mk ?_ | refine V.NIf.not_ ?_ | refine V.NIf.dec_ ?_ | refine V.NIf.no (by omega) ?_ | refine V.NIf.yes (by omega) ?_ | refine V.NIf.mk (fun _ => ?_) (fun _ => ?_) | refine V.NWrap.ok (by omega) (by omega) ?_ | refine V.NWrap.u64 (by omega) (by omega) ?_ | refine V.NLt.mk (by omega) ?_ | refine V.NBoth.mk ?_ ?_ | refine V.NTF.yes (by omega) ?_ | refine V.NTF.no (by omega) ?_ | refine V.NTF.dec ?_ | refine V.NDraw.q (by exact rfl) (by kernel_rfl) ?_ | refine V.NApp.one (by first | omega | (simp; omega)) (by first | omega | (simp; omega)) ?_ | ((first | refine V.Fn.k (c2) [1] rfl ?_ ?_ | refine V.Fn.q (c2) [1] rfl ?_ ?_ | refine V.Fn.a (c2) [1] rfl ?_ ?_); · ((repeat' (first | exact rfl | exact Iff.rfl | exact trivial | exact (fun _ _ => rfl) | exact (fun _ h => absurd h (Nat.not_lt_zero _)) | refine ⟨?_, ?_⟩ | exact Iff.rfl | exact congrArg (fun z => V.SV.one (V.At.val (Value.int .i64 z))) (by omega))); done)) | (refine V.NDraw.any (by kernel_rfl) ?_) | fail)
      all_goals (conv => whnf)
      all_goals first
        | (first | exact ⟨_, rfl, iff_of_true (by omega) rfl⟩ | (exfalso; omega) | exact ⟨_, rfl, by simp; omega⟩ | exact ⟨_, rfl, by simp⟩)
        | trace_state
  · have h1 : Cp.mV l = 0 := if_neg h
    rw [h1] at c1
    generalize Cp.mE l = E at *
    refine V.Fn.mk_ V.Tok V.mixed Try.func5 rfl Try.ntmps5 (by kernel_rfl) rfl rfl ?_
    repeat' ((conv => whnf); first | (refine V.NIf.yes ?_ ?_; · (decide; done)) | (refine V.NIf.no ?_ ?_; · (decide; done)) | (refine V.NIf.yes ?_ ?_; · (simp only [true_and, and_true, and_self]; done)) | refine V.NCond.mk ?_ | refine V.NIf.not_ ?_ | refine V.NIf.dec_ ?_ | refine V.NIf.no (by omega) ?_ | refine V.NIf.yes (by omega) ?_ | refine V.NIf.mk (fun _ => ?_) (fun _ => ?_) | refine V.NWrap.ok (by omega) (by omega) ?_ | refine V.NWrap.u64 (by omega) (by omega) ?_ | refine V.NLt.mk (by omega) ?_ | refine V.NBoth.mk ?_ ?_ | refine V.NTF.yes (by omega) ?_ | refine V.NTF.no (by omega) ?_ | refine V.NTF.dec ?_ | refine V.NDraw.q (by exact rfl) (by kernel_rfl) ?_ | refine V.NApp.one (by first | omega | (simp; omega)) (by first | omega | (simp; omega)) ?_ | ((first | refine V.Fn.k (c1) [0] rfl ?_ ?_ | refine V.Fn.q (c1) [0] rfl ?_ ?_ | refine V.Fn.a (c1) [0] rfl ?_ ?_); · ((repeat' (first | exact rfl | exact Iff.rfl | exact trivial | exact (fun _ _ => rfl) | exact (fun _ h => absurd h (Nat.not_lt_zero _)) | refine ⟨?_, ?_⟩ | exact Iff.rfl | exact congrArg (fun z => V.SV.one (V.At.val (Value.int .i64 z))) (by omega))); done)) | (first | refine V.Fn.k0 (v_cpBegun) rfl ?_ | refine V.Fn.q0 (v_cpBegun) rfl ?_ | refine V.Fn.a0 (v_cpBegun) rfl ?_) | (refine V.NDraw.any (by kernel_rfl) ?_) | fail)
    all_goals (conv => whnf)
    all_goals first
      | (first | exact ⟨_, rfl, iff_of_true (by omega) rfl⟩ | (exfalso; omega) | exact ⟨_, rfl, by simp; omega⟩ | exact ⟨_, rfl, by simp⟩)
      | trace_state
end Go.Proofs.Ytjjepkklaagmmaa

/- The statement of CompMiddle: for every input the call returns true and its input reads as it did. No condition. -/
namespace Go.Proofs.Ytjjepkklaagmmaa.compMiddle
open Go.ChangeShapes Go.WideShapes Go.ChangeAt Go.RowKit

theorem own : ownKnob Try.prog.godebug = none := by kernel_rfl

set_option maxRecDepth 100000 in
theorem lifted (os : Os) (started : os.Started) (H : Type) (enc : TypeId × Value → H) :
    ReturnsInHanded {} Try.checked os 5 .any (Rows.compMiddleSpec.pre6 enc Try.prog Try.f5 Rows.compMiddleRow.domain false) (Rows.compMiddleSpec.post enc Try.prog Try.f5 false true false false) := by
  refine returnsInHanded_of_change (C := Try.checked) own started (by kernel_rfl) Try.func5
    (ChangeSpec.witness6 (enc := enc) (C := Try.checked) false ⟨#[], #[.slice none 0 0, .int .i64 0], []⟩ 8 (by kernel_rfl) (by kernel_rfl) (by kernel_rfl) (by kernel_rfl)) ?_
  intro W base args ds gs before hval0 hW _ _
  have hval : ∀ (j : Nat) t v, Try.f5.params[j]? = some t → args[j]? = some v → Value.okWide Try.prog W .any base t v := hval0
  have hW' := hW
  obtain ⟨p, q, hA0, hV, rfl, hfz, hnd⟩ := hW
  have hA : DataW.TrodAll enc Try.prog W 0 (fun _ => true) true Try.f5.params.toList args.toList ds p := hA0
  rw [Try.params5] at hA hval
  obtain ⟨v0, vs0, d0, ds0, p0, q0, hargs, rfl, rfl, h0, r0⟩ := trodAll_cons hA
  obtain ⟨v1, vs1, d1, ds1, p1, q1, rfl, rfl, rfl, h1, r1⟩ := trodAll_cons r0
  obtain ⟨rfl, rfl, rfl⟩ := trodAll_nil r1
  obtain rfl : args = #[v0, v1] := by cases args; simp_all
  obtain ⟨rfl, rfl⟩ := trodVars_none hV
  obtain ⟨l0, hl0, w0⟩ := open_il (hval 0 24 v0 rfl rfl) h0
  obtain ⟨a1, rfl, rfl, rfl, w1⟩ := open_int Try.underlying3 (hval 1 3 v1 rfl rfl) h1
  clear hval0
  simp only [List.append_nil] at hW'
  refine ((v_compMiddle l0 w0 a1 w1).c W (fun i => [v0][i]?) [_, _] (fun i o ho => by
      rcases i with _ | i
      · obtain rfl := Option.some.inj ho
        exact ⟨v0, rfl, hl0⟩
      simp at ho
) ⟨_, _, rfl, ⟨rfl, hl0.one⟩, ⟨_, _, rfl, rfl, rfl⟩⟩).mono fun e W' ⟨he, hg⟩ => ?_
  subst he
  exact ⟨_, rfl, post_of_below (pa := _) (pv := []) hW' (fun _ _ _ => (trodAll_cons_mk (shut_bool Try.underlying4 _) trodAll_mk0)) (fun sp hsp => all_stays laidOut (by kernel_rfl) hA0 (fun x hx => hg.same (hW'.lt x (by revert hx; simp))) (fun x hx => hsp x (by revert hx; simp))) (fun _ _ => rfl) (by simp)
    hg (ok_one (by kernel_rfl) rfl (okWide_bool_mk Try.underlying4 _))⟩

theorem over : Rows.compMiddleRow.holds Try.pinned (OpenSpec.ofChange Rows.compMiddleSpec) :=
  OpenClaim.holds_of_wide 5 Try.f5 rfl rfl rfl rfl rfl rfl rfl ⟨rfl, rfl, rfl, rfl, rfl⟩ rfl rfl rfl rfl rfl (by kernel_rfl) Try.func5 (by kernel_rfl)
    (of_decide_eq_true (by kernel_rfl)) (by unfold Func.isWrapper; first | (rw [if_pos (by decide +kernel)]; kernel_rfl) | (rw [if_neg (by decide +kernel)]; exact ⟨rfl, rfl⟩))
    (fun os started H enc _ => lifted os started H enc)

theorem proved : Rows.CompMiddleSaid :=
  over
end Go.Proofs.Ytjjepkklaagmmaa.compMiddle
