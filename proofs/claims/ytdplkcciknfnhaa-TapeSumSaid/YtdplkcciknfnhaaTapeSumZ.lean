/- The statement of TapeSum: the call returns true for every input, and its input reads as it did. No condition. -/
import Derived.Test.YtdplkcciknfnhaaRows
import Derived.WalkKit
import Derived.ProofKit
import Derived.OpenShut
import Derived.Test.YtdplkcciknfnhaaZ1
import Derived.Test.YtdplkcciknfnhaaZ2
import Derived.Test.YtdplkcciknfnhaaZ3
import Derived.Test.YtdplkcciknfnhaaZ4
set_option linter.unusedVariables false
set_option linter.unusedSimpArgs false
set_option linter.unusedSectionVars false
set_option maxRecDepth 100000

/- TapeSum: a byte that is changed changes the sum; sums are linear. -/
namespace Go.Proofs.Ytdplkcciknfnhaa
open Go Go.RowKit V
set_option maxRecDepth 100000
set_option linter.unusedVariables false
set_option linter.unusedSimpArgs false
theorem Ta.u8_nat {x : Int} (h : (Lit.int .u8 x).wf = true) : ∃ n : Nat, x = n ∧ n < 256 := by
  have h1 : (decide (IntKind.min .u8 ≤ x) && decide (x ≤ IntKind.max .u8)) = true := h
  rw [Bool.and_eq_true, decide_eq_true_eq, decide_eq_true_eq] at h1
  obtain ⟨h2, h3⟩ := h1
  have h2 : (0 : Int) ≤ x := h2
  have h3 : x ≤ (255 : Int) := h3
  exact ⟨x.toNat, by omega, by omega⟩
theorem Ta.set_by {l : List Nat} {p x : Nat} (h : Ta.By l) (hx : x < 256) : Ta.By (l.set p x) := fun y hy => by
  rcases List.mem_or_eq_of_mem_set hy with q | q
  · exact h y q
  · omega
theorem Ta.x256 {a b : Nat} (ha : a < 256) (hb : b < 256) : a ^^^ b < 256 := Nat.xor_lt_two_pow (n := 8) ha hb
set_option maxHeartbeats 4000000 in
theorem v_sumchange (l : List Nat) (hb : Ta.By l) (hl : l.length ≤ 4000) (p : Nat) (hp : p < l.length) (x : Nat) (hx : x < 256) : V.Fn Try.prog 19 [.cel [.ref 1], .arr 1 l.length (ga ebn l), .cel [.val (.int .i64 p)]] [.one (.val (.int .u8 x)), .one (.ptr 0 0 0 0), .one (.ptr 2 0 0 0)] (.int .i64 ((Ta.sm (l.set p (l.getD p default ^^^ x)) : Nat) : Int)) := by
  have hy := hb _ (getD_mem hp)
  have hz := Ta.x256 hy hx
  have sb := Ta.set_by (p := p) hb hz
  have sl : (l.set p (l.getD p default ^^^ x)).length = l.length := List.length_set
  have c1 := v_Sum (l.set p (l.getD p default ^^^ x)) sb (by omega)
  rw [show Ta.suV (l.set p (l.getD p default ^^^ x)) = (Ta.sm (l.set p (l.getD p default ^^^ x)) : Nat) from if_neg (by omega), show Ta.suE (l.set p (l.getD p default ^^^ x)) = 0 from if_neg (by omega)] at c1
  generalize Ta.sm (l.set p (l.getD p default ^^^ x)) = s at *
  refine V.Fn.mk_ V.Tok V.mixed Try.func19 rfl Try.ntmps19 (by kernel_rfl) rfl rfl ?_
  repeat' ((conv => whnf); first | (refine V.NIf.yes ?_ ?_; · (exact rfl; done)) | (refine V.NIf.no ?_ ?_; · (exact fun h => h rfl; done)) | (refine V.NIf.yes ?_ ?_; · (omega; done)) | (refine V.NIf.no ?_ ?_; · (omega; done)) | refine V.NCond.mk ?_ | refine V.NPick.l ?_ | refine V.NIf.not_ ?_ | refine V.NIf.dec_ ?_ | refine V.a4 ?_ | refine V.a5 ?_ | refine V.NIf.mk (fun _ => ?_) (fun _ => ?_) | refine V.a7 ?_ | refine V.a8 ?_ | refine V.a9 ?_ | refine V.NBoth.mk ?_ ?_ | refine V.b1 ?_ | refine V.b2 ?_ | refine V.NTF.dec ?_ | refine V.b3 ?_ | refine V.b4 ?_ | (refine NOne.mk ?_ ?_; · (intro k hk; rfl)) | (refine V.NApp.to_ (en := ebn) l (by show 0 + l.length = _; omega) (by omega) (by show l.length * 1 ≤ _; omega) (fun k hk => absurd hk (Nat.not_lt_zero _)) (fun k hk => by rw [Nat.zero_add]) ?_) | (refine NIdx.mk ⟨p, rfl, by omega, ?_⟩) | (refine NBit.xorU rfl (l.getD p default) x rfl rfl hy hx ?_) | (refine V.NPut.to (l.getD p default ^^^ x) rfl rfl ?_) | ((first | refine V.Fn.k (c1) [4] rfl ?_ ?_ | refine V.Fn.q (c1) [4] rfl ?_ ?_ | refine V.Fn.a (c1) [4] rfl ?_ ?_); · exact ⟨⟨rfl, (by omega), fun _ _ => rfl⟩, trivial⟩) | (refine V.NDraw.any (by kernel_rfl) ?_) | fail)
  all_goals (conv => whnf)
set_option maxHeartbeats 4000000 in
theorem v_tapeSum (t : List Nat) (ht : Ta.By t) (at_ : Int) (w_at_ : (Lit.int .i64 at_).wf = true) (x : Int) (wx : (Lit.int .u8 x).wf = true) (y : Int) (wy : (Lit.int .u8 y).wf = true) : V.Fn Try.prog 6 [.arr 1 t.length (ga ebn t)] [.one (.ref 0), .one (.val (.int .i64 at_)), .one (.val (.int .u8 x)), .one (.val (.int .u8 y))] (.bool true) := by
  refine V.Fn.lim (by kernel_rfl) fun hl => ?_
  have lt : t.length ≤ 9223372036854775807 := hl 0 _ _ _ rfl
  clear hl
  obtain ⟨x, rfl, hx⟩ := Ta.u8_nat wx
  obtain ⟨y, rfl, hy⟩ := Ta.u8_nat wy
  clear wx wy
  have c1 := v_Sum t ht lt
  by_cases h1 : 4000 < t.length
  · rw [show Ta.suV t = 0 from if_pos h1, show Ta.suE t = 2 from if_pos h1] at c1
    refine V.Fn.mk_ V.Tok V.mixed Try.func6 rfl Try.ntmps6 (by kernel_rfl) rfl rfl ?_
    repeat' ((conv => whnf); first | (refine V.NIf.yes ?_ ?_; · (exact rfl; done)) | (refine V.NIf.no ?_ ?_; · (exact fun h => h rfl; done)) | (refine V.NIf.yes ?_ ?_; · (omega; done)) | (refine V.NIf.no ?_ ?_; · (omega; done)) | refine V.NCond.mk ?_ | refine V.NPick.l ?_ | refine V.NIf.not_ ?_ | refine V.NIf.dec_ ?_ | refine V.a4 ?_ | refine V.a5 ?_ | refine V.NIf.mk (fun _ => ?_) (fun _ => ?_) | refine V.a7 ?_ | refine V.a8 ?_ | refine V.a9 ?_ | refine V.NBoth.mk ?_ ?_ | refine V.b1 ?_ | refine V.b2 ?_ | refine V.NTF.dec ?_ | refine V.b3 ?_ | refine V.b4 ?_ | ((first | refine V.Fn.k (c1) [0] rfl ?_ ?_ | refine V.Fn.q (c1) [0] rfl ?_ ?_ | refine V.Fn.a (c1) [0] rfl ?_ ?_); · exact V.D_) | (first | refine V.Fn.k0 (v_tapeBegun) rfl ?_ | refine V.Fn.q0 (v_tapeBegun) rfl ?_ | refine V.Fn.a0 (v_tapeBegun) rfl ?_) | (refine V.NDraw.any (by kernel_rfl) ?_) | fail)
    all_goals (conv => whnf)
    all_goals exact ⟨true, rfl, iff_of_true rfl rfl⟩
  rw [show Ta.suV t = (Ta.sm t : Nat) from if_neg h1, show Ta.suE t = 0 from if_neg h1] at c1
  by_cases h2 : at_ < 0 ∨ (t.length : Int) ≤ at_
  · refine V.Fn.mk_ V.Tok V.mixed Try.func6 rfl Try.ntmps6 (by kernel_rfl) rfl rfl ?_
    repeat' ((conv => whnf); first | (refine V.NIf.yes ?_ ?_; · (exact rfl; done)) | (refine V.NIf.no ?_ ?_; · (exact fun h => h rfl; done)) | (refine V.NIf.yes ?_ ?_; · (omega; done)) | (refine V.NIf.no ?_ ?_; · (omega; done)) | refine V.NCond.mk ?_ | refine V.NPick.l ?_ | refine V.NIf.not_ ?_ | refine V.NIf.dec_ ?_ | refine V.a4 ?_ | refine V.a5 ?_ | refine V.NIf.mk (fun _ => ?_) (fun _ => ?_) | refine V.a7 ?_ | refine V.a8 ?_ | refine V.a9 ?_ | refine V.NBoth.mk ?_ ?_ | refine V.b1 ?_ | refine V.b2 ?_ | refine V.NTF.dec ?_ | refine V.b3 ?_ | refine V.b4 ?_ | ((first | refine V.Fn.k (c1) [0] rfl ?_ ?_ | refine V.Fn.q (c1) [0] rfl ?_ ?_ | refine V.Fn.a (c1) [0] rfl ?_ ?_); · exact V.D_) | (first | refine V.Fn.k0 (v_tapeBegun) rfl ?_ | refine V.Fn.q0 (v_tapeBegun) rfl ?_ | refine V.Fn.a0 (v_tapeBegun) rfl ?_) | (refine V.NDraw.any (by kernel_rfl) ?_) | fail)
    all_goals (conv => whnf)
    all_goals exact ⟨true, rfl, iff_of_true rfl rfl⟩
  obtain ⟨p, rfl⟩ : ∃ p : Nat, at_ = p := ⟨at_.toNat, by omega⟩
  have hp : p < t.length := by omega
  have c2 := v_sumchange t ht (by omega) p hp x hx
  have c3 := v_sumchange t ht (by omega) p hp y hy
  have hxy := Ta.x256 hx hy
  have c4 := v_sumchange t ht (by omega) p hp (x ^^^ y) hxy
  have b0 := Ta.sm_lt ht
  have b1 := Ta.sm_lt (Ta.set_by (p := p) ht (Ta.x256 (ht _ (getD_mem hp)) hx))
  have b2 := Ta.sm_lt (Ta.set_by (p := p) ht (Ta.x256 (ht _ (getD_mem hp)) hy))
  obtain ⟨k1, k2⟩ := Ta.sums (y := y) hp hx
  generalize Ta.sm (t.set p (t.getD p default ^^^ x)) = A at *
  generalize Ta.sm (t.set p (t.getD p default ^^^ y)) = B at *
  generalize Ta.sm (t.set p (t.getD p default ^^^ (x ^^^ y))) = D at *
  generalize Ta.sm t = S at *
  have b3 : S ^^^ A < 2 ^ 32 := Nat.xor_lt_two_pow b0 b1
  refine V.Fn.mk_ V.Tok V.mixed Try.func6 rfl Try.ntmps6 (by kernel_rfl) rfl rfl ?_
  repeat' ((conv => whnf); first | (refine V.NIf.yes ?_ ?_; · (exact rfl; done)) | (refine V.NIf.no ?_ ?_; · (exact fun h => h rfl; done)) | (refine V.NIf.yes ?_ ?_; · (omega; done)) | (refine V.NIf.no ?_ ?_; · (omega; done)) | refine V.NCond.mk ?_ | refine V.NPick.l ?_ | refine V.NIf.not_ ?_ | refine V.NIf.dec_ ?_ | refine V.a4 ?_ | refine V.a5 ?_ | refine V.NIf.mk (fun _ => ?_) (fun _ => ?_) | refine V.a7 ?_ | refine V.a8 ?_ | refine V.a9 ?_ | refine V.NBoth.mk ?_ ?_ | refine V.b1 ?_ | refine V.b2 ?_ | refine V.NTF.dec ?_ | refine V.b3 ?_ | refine V.b4 ?_ | ((first | refine V.Fn.k (c1) [0] rfl ?_ ?_ | refine V.Fn.q (c1) [0] rfl ?_ ?_ | refine V.Fn.a (c1) [0] rfl ?_ ?_); · exact V.D_) | (first | refine V.Fn.k0 (v_tapeBegun) rfl ?_ | refine V.Fn.q0 (v_tapeBegun) rfl ?_ | refine V.Fn.a0 (v_tapeBegun) rfl ?_) | ((first | refine V.Fn.k (c2) [1, 0, 2] rfl ?_ ?_ | refine V.Fn.q (c2) [1, 0, 2] rfl ?_ ?_ | refine V.Fn.a (c2) [1, 0, 2] rfl ?_ ?_); · exact V.D_) | ((first | refine V.Fn.k (c3) [1, 0, 2] rfl ?_ ?_ | refine V.Fn.q (c3) [1, 0, 2] rfl ?_ ?_ | refine V.Fn.a (c3) [1, 0, 2] rfl ?_ ?_); · exact V.D_) | ((first | refine V.Fn.k (c4) [1, 0, 2] rfl ?_ ?_ | refine V.Fn.q (c4) [1, 0, 2] rfl ?_ ?_ | refine V.Fn.a (c4) [1, 0, 2] rfl ?_ ?_); · exact V.D_) | (refine NBit.xorU rfl x y rfl rfl hx hy ?_) | (refine NBit.xorI S A rfl rfl (by omega) (by omega) ?_) | (refine NBit.xorI (S ^^^ A) B rfl rfl (by omega) (by omega) ?_) | (refine V.NDraw.any (by kernel_rfl) ?_) | fail)
  all_goals (conv => whnf)
  all_goals exact ⟨true, rfl, iff_of_true (congrArg Int.ofNat k2) rfl⟩
end Go.Proofs.Ytdplkcciknfnhaa

/- The statement of TapeSum: for every input the call returns true and its input reads as it did. No condition. -/
namespace Go.Proofs.Ytdplkcciknfnhaa.tapeSum
open Go.ChangeShapes Go.WideShapes Go.ChangeAt Go.RowKit

theorem own : ownKnob Try.prog.godebug = none := by kernel_rfl

set_option maxRecDepth 100000 in
theorem lifted (os : Os) (started : os.Started) (H : Type) (enc : TypeId × Value → H) :
    ReturnsInHanded {} Try.checked os 6 .any (Rows.tapeSumSpec.pre6 enc Try.prog Try.f6 Rows.tapeSumRow.domain false) (Rows.tapeSumSpec.post enc Try.prog Try.f6 false true false false) := by
  refine returnsInHanded_of_change (C := Try.checked) own started (by kernel_rfl) Try.func6
    (ChangeSpec.witness6 (enc := enc) (C := Try.checked) false ⟨#[], #[.slice none 0 0, .int .i64 0, .int .u8 0, .int .u8 0], []⟩ 8 (by kernel_rfl) (by kernel_rfl) (by kernel_rfl) (by kernel_rfl)) ?_
  intro W base args ds gs before hval0 hW _ _
  have hval : ∀ (j : Nat) t v, Try.f6.params[j]? = some t → args[j]? = some v → Value.okWide Try.prog W .any base t v := hval0
  have hW' := hW
  obtain ⟨p, q, hA0, hV, rfl, hfz, hnd⟩ := hW
  have hA : DataW.TrodAll enc Try.prog W 0 (fun _ => true) true Try.f6.params.toList args.toList ds p := hA0
  rw [Try.params6] at hA hval
  obtain ⟨v0, vs0, d0, ds0, p0, q0, hargs, rfl, rfl, h0, r0⟩ := trodAll_cons hA
  obtain ⟨v1, vs1, d1, ds1, p1, q1, rfl, rfl, rfl, h1, r1⟩ := trodAll_cons r0
  obtain ⟨v2, vs2, d2, ds2, p2, q2, rfl, rfl, rfl, h2, r2⟩ := trodAll_cons r1
  obtain ⟨v3, vs3, d3, ds3, p3, q3, rfl, rfl, rfl, h3, r3⟩ := trodAll_cons r2
  obtain ⟨rfl, rfl, rfl⟩ := trodAll_nil r3
  obtain rfl : args = #[v0, v1, v2, v3] := by cases args; simp_all
  obtain ⟨rfl, rfl⟩ := trodVars_none hV
  obtain ⟨l0, hl0, w0⟩ := open_bl (hval 0 22 v0 rfl rfl) h0
  obtain ⟨a1, rfl, rfl, rfl, w1⟩ := open_int Try.underlying3 (hval 1 3 v1 rfl rfl) h1
  obtain ⟨a2, rfl, rfl, rfl, w2⟩ := open_int Try.underlying5 (hval 2 5 v2 rfl rfl) h2
  obtain ⟨a3, rfl, rfl, rfl, w3⟩ := open_int Try.underlying5 (hval 3 5 v3 rfl rfl) h3
  clear hval0
  simp only [List.append_nil] at hW'
  refine ((v_tapeSum l0 w0 a1 w1 a2 w2 a3 w3).c W (fun i => [v0][i]?) [_, _, _, _] (fun i o ho => by
      rcases i with _ | i
      · obtain rfl := Option.some.inj ho
        exact ⟨v0, rfl, hl0⟩
      simp at ho
) ⟨_, _, rfl, ⟨rfl, hl0.one⟩, ⟨_, _, rfl, rfl, ⟨_, _, rfl, rfl, ⟨_, _, rfl, rfl, rfl⟩⟩⟩⟩).mono fun e W' ⟨he, hg0⟩ => ?_
  have hg := hg0.toBelow
  subst he
  exact ⟨_, rfl, post_of_below (pa := _) (pv := []) hW' (fun _ _ _ => (trodAll_cons_mk (shut_bool Try.underlying4 _) trodAll_mk0)) (fun sp hsp => all_stays laidOut (by kernel_rfl) hA0 (fun x hx => hg.same (hW'.lt x (by revert hx; simp))) (fun x hx => hsp x (by revert hx; simp))) (fun _ _ => rfl) (by simp)
    hg (ok_one (by kernel_rfl) rfl (okWide_bool_mk Try.underlying4 _))⟩

theorem over : Rows.tapeSumRow.holds Try.pinned (OpenSpec.ofChange Rows.tapeSumSpec) :=
  OpenClaim.holds_of_wide 6 Try.f6 rfl rfl rfl rfl rfl rfl rfl ⟨rfl, rfl, rfl, rfl, rfl⟩ rfl rfl rfl rfl rfl (by kernel_rfl) Try.func6 (by kernel_rfl)
    (of_decide_eq_true (by kernel_rfl)) (by unfold Func.isWrapper; first | (rw [if_pos (by decide +kernel)]; kernel_rfl) | (rw [if_neg (by decide +kernel)]; exact ⟨rfl, rfl⟩))
    (fun os started H enc _ => lifted os started H enc)

theorem proved : Rows.TapeSumSaid :=
  over
end Go.Proofs.Ytdplkcciknfnhaa.tapeSum
