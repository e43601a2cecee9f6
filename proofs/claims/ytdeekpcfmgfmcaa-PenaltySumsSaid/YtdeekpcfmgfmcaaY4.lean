/- Shared texts, one behind the other: VMoney, VMoneyR, VPrice, VRange, VCal, DateCk, DateW, DateRW, DateRM, VDate, VCal2, VAge, VAgeR, VPen, VPen2, VPen3, BookPl, NetPl, VNet1, VNet2, VSumOf, VNet3, VPen4, VAgeB, LotPl, VSame, VPenB, PenPl2, VPenC, NetPl2, PenPl4, VFam -/
import Derived.Test.YtdeekpcfmgfmcaaY1
import Derived.Test.YtdeekpcfmgfmcaaY2
import Derived.Test.YtdeekpcfmgfmcaaY3

/- What the functions of the package 'money' answer. -/
namespace Go.Proofs.Ytdeekpcfmgfmcaa
open Go Go.RowKit V
set_option maxRecDepth 100000
set_option linter.unusedVariables false
namespace M
theorem chk_ok {a : Int} (h : chk a = 0) : Amt a := by
  by_cases q : Amt a
  · exact q
  · rw [chk_no q] at h; omega
theorem chks_ok {l : List Int} (h : chks l = 0) : ∀ a ∈ l, Amt a := by
  by_cases q : ∀ a ∈ l, Amt a
  · exact q
  · rw [chks_no q] at h; omega
theorem chks_bad {l : List Int} (h : ¬ chks l = 0) : chks l = 3 := by unfold chks at h ⊢; split <;> simp_all
theorem chk_nok {a : Int} (h : ¬ chk a = 0) : ¬ Amt a := fun q => h (chk_yes q)
theorem ck_ok {a b c : Int} (h : ckE a b c = 0) : POk a b c := by
  by_cases q : POk a b c
  · exact q
  · rw [ck_no q] at h; omega
theorem ck_nok {a b c : Int} (h : ¬ ckE a b c = 0) : ¬ POk a b c := fun q => h (ck_yes q)
def spQ (a b c : Int) : Int := if c ≤ a * b / 18446744073709551616 then 0 else a * b / c
def spR (a b c : Int) : Int := if c ≤ a * b / 18446744073709551616 then 0 else a * b % c
def spB (a b c : Int) : Bool := if c ≤ a * b / 18446744073709551616 then false else decide (a * b / c ≤ 1152921504606846976)
end M
theorem v_mwithin (n a b : Int) : V.Fn Try.prog 110 [] [.one (.val (.int .i64 n)), .one (.val (.int .i64 a)), .one (.val (.int .i64 b))] (.bool (decide (a ≤ n ∧ n ≤ b))) := by
  refine V.Fn.mk_ V.Tok V.mixed Try.func110 rfl Try.ntmps110 (by kernel_rfl) rfl rfl ?_
  repeat' ((conv => whnf); first | refine V.NCond.mk ?_ | refine V.NIf.not_ ?_ | refine V.NIf.dec_ ?_ | refine V.a4 ?_ | refine V.a5 ?_ | refine V.NIf.mk (fun _ => ?_) (fun _ => ?_) | refine V.a7 ?_ | refine V.a8 ?_ | refine V.a9 ?_ | refine V.NBoth.mk ?_ ?_ | refine V.b1 ?_ | refine V.b2 ?_ | refine V.NTF.dec ?_ | refine V.b3 ?_ | refine V.b4 ?_ | (refine V.NDraw.any (by kernel_rfl) ?_) | fail)
  · exact ⟨_, rfl, by simp_all⟩
  · exact congrArg Value.bool (by simp_all; omega)
theorem v_check (a : Int) : V.Fn Try.prog 73 [] [.one (.val (.int .i64 a))] (.int .i64 (M.chk a)) := by
  refine V.Fn.mk_ V.Tok V.mixed Try.func73 rfl Try.ntmps73 (by kernel_rfl) rfl rfl ?_
  repeat' ((conv => whnf); first | refine V.NCond.mk ?_ | refine V.NIf.not_ ?_ | refine V.NIf.dec_ ?_ | refine V.a4 ?_ | refine V.a5 ?_ | refine V.NIf.mk (fun _ => ?_) (fun _ => ?_) | refine V.a7 ?_ | refine V.a8 ?_ | refine V.a9 ?_ | refine V.NBoth.mk ?_ ?_ | refine V.b1 ?_ | refine V.b2 ?_ | refine V.NTF.dec ?_ | refine V.b3 ?_ | refine V.b4 ?_ | (first | refine V.Fn.k0 (v_mwithin _ _ _) rfl ?_ | refine V.Fn.q0 (v_mwithin _ _ _) rfl ?_ | refine V.Fn.a0 (v_mwithin _ _ _) rfl ?_) | (refine V.NDraw.any (by kernel_rfl) ?_) | fail)
  all_goals ((conv => whnf); refine congrArg _ ?_; unfold M.chk M.Amt; (repeat' split) <;> first | rfl | omega | (exfalso; omega) | (simp_all; done) | (simp_all; omega))
theorem v_split (a b c : Int) (ha : 0 ≤ a ∧ a < 18446744073709551616) (hb : 0 ≤ b ∧ b < 18446744073709551616) (hc : 0 ≤ c ∧ c < 18446744073709551616) :
    V.Fn Try.prog 111 [] [.one (.val (.int .u64 a)), .one (.val (.int .u64 b)), .one (.val (.int .u64 c))] (.tuple #[.int .u64 (M.spQ a b c), .int .u64 (M.spR a b c), .bool (M.spB a b c)]) := by
  obtain ⟨x, rfl⟩ := Int.eq_ofNat_of_zero_le ha.1
  obtain ⟨y, rfl⟩ := Int.eq_ofNat_of_zero_le hb.1
  obtain ⟨z, rfl⟩ := Int.eq_ofNat_of_zero_le hc.1
  have e : (x : Int) * y / 18446744073709551616 = ((x * y / 18446744073709551616 : Nat) : Int) := by simp
  by_cases h : z ≤ x * y / 18446744073709551616
  · have h' : (z : Int) ≤ (x : Int) * y / 18446744073709551616 := by rw [e]; exact Int.ofNat_le.2 h
    rw [show M.spQ x y z = 0 from if_pos h', show M.spR x y z = 0 from if_pos h', show M.spB x y z = false from if_pos h']
    refine Fn.of_calls (xs := [.int .u64 x, .int .u64 y, .int .u64 z]) (by kernel_rfl) V.S_ fun w => ?_
    refine (msplit_no x y z (by omega) (by omega) h w).mono ?_
    rintro e w' ⟨rfl, rfl⟩
    exact ⟨rfl, Below.refl _ _⟩
  · have h' : ¬ (z : Int) ≤ (x : Int) * y / 18446744073709551616 := by rw [e]; exact fun q => h (Int.ofNat_le.1 q)
    rw [show M.spQ x y z = _ from if_neg h', show M.spR x y z = _ from if_neg h', show M.spB x y z = _ from if_neg h']
    refine Fn.of_calls (xs := [.int .u64 x, .int .u64 y, .int .u64 z]) (by kernel_rfl) V.S_ fun w => ?_
    refine (msplit_yes x y z (x * y / z) (x * y % z) (by omega) (by omega) (by omega) (by omega) rfl rfl w).mono ?_
    rintro e w' ⟨rfl, hb⟩
    exact ⟨by simp, hb⟩
namespace M
def rawQ (a b c : Int) : Int := if 0 ≤ a then IntKind.i64.wrap (spQ a b c) else if spR (0 - a) b c = 0 then IntKind.i64.wrap (0 - IntKind.i64.wrap (spQ (0 - a) b c)) else IntKind.i64.wrap (IntKind.i64.wrap (0 - IntKind.i64.wrap (spQ (0 - a) b c)) - 1)
def rawR (a b c : Int) : Int := if 0 ≤ a then spR a b c else if spR (0 - a) b c = 0 then 0 else c - spR (0 - a) b c
def rawB (a b c : Int) : Bool := if 0 ≤ a then spB a b c else if spR (0 - a) b c = 0 then spB (0 - a) b c else (spB (0 - a) b c && decide (spQ (0 - a) b c < 1152921504606846976))
theorem raw_1 {a b c : Int} (h : 0 ≤ a) : rawQ a b c = IntKind.i64.wrap (spQ a b c) ∧ rawR a b c = spR a b c ∧ rawB a b c = spB a b c := ⟨if_pos h, if_pos h, if_pos h⟩
theorem raw_2 {a b c : Int} (h : ¬ 0 ≤ a) (k : spR (0 - a) b c = 0) : rawQ a b c = IntKind.i64.wrap (0 - IntKind.i64.wrap (spQ (0 - a) b c)) ∧ rawR a b c = 0 ∧ rawB a b c = spB (0 - a) b c := by
  unfold rawQ rawR rawB; rw [if_neg h, if_pos k, if_neg h, if_pos k, if_neg h, if_pos k]; exact ⟨rfl, rfl, rfl⟩
theorem raw_3 {a b c : Int} (h : ¬ 0 ≤ a) (k : ¬ spR (0 - a) b c = 0) : rawQ a b c = IntKind.i64.wrap (IntKind.i64.wrap (0 - IntKind.i64.wrap (spQ (0 - a) b c)) - 1) ∧ rawR a b c = c - spR (0 - a) b c ∧ rawB a b c = (spB (0 - a) b c && decide (spQ (0 - a) b c < 1152921504606846976)) := by
  unfold rawQ rawR rawB; rw [if_neg h, if_neg k, if_neg h, if_neg k, if_neg h, if_neg k]; exact ⟨rfl, rfl, rfl⟩
theorem spR_bd {a b c : Int} (hc : 1 ≤ c) : 0 ≤ spR a b c ∧ spR a b c < c := by
  unfold spR; split
  · omega
  · exact r_bd hc
theorem i64w {e : Int} (h : -9223372036854775808 ≤ e ∧ e ≤ 9223372036854775807) : IntKind.i64.wrap e = e := IntWalk.i64_in e h
theorem sp_in {a b c : Int} (hc : 1 ≤ c ∧ c ≤ 1099511627776) (ha : 0 ≤ a) (hb : 0 ≤ b) (k : a * b / c ≤ 1152921504606846976) : spQ a b c = a * b / c ∧ spR a b c = a * b % c ∧ spB a b c = true := by
  have hab : 0 ≤ a * b := Int.mul_nonneg ha hb
  have e := qr (a * b) c
  have r := r_bd (x := a * b) hc.1
  have lt : ¬ c ≤ a * b / 18446744073709551616 := by
    intro q
    have h1 : c * 18446744073709551616 ≤ a * b := (Int.le_ediv_iff_mul_le (by omega)).1 q
    have h2 : c * (a * b / c) ≤ c * 1152921504606846976 := Int.mul_le_mul_of_nonneg_left k (by omega)
    omega
  exact ⟨if_neg lt, if_neg lt, (if_neg lt).trans (decide_eq_true k)⟩
theorem sp_out {a b c : Int} (hc : 1 ≤ c ∧ c ≤ 1099511627776) (ha : 0 ≤ a) (hb : 0 ≤ b) (k : spB a b c = true) : a * b / c ≤ 1152921504606846976 := by
  unfold spB at k
  split at k
  · cases k
  · exact of_decide_eq_true k
theorem raw_at {a b c : Int} (h : POk a b c) : (rawB a b c = true ↔ Amt (a * b / c)) ∧ (Amt (a * b / c) → rawQ a b c = a * b / c ∧ rawR a b c = a * b % c) := by
  obtain ⟨⟨a0, a1⟩, ⟨b0, b1⟩, hc⟩ := h
  by_cases ha : 0 ≤ a
  · obtain ⟨e1, e2, e3⟩ := raw_1 (b := b) (c := c) ha
    have q0 : 0 ≤ a * b / c := Int.ediv_nonneg (Int.mul_nonneg ha b0) (by omega)
    rw [e1, e2, e3]
    refine ⟨⟨fun k => ⟨by omega, sp_out hc ha b0 k⟩, fun k => (sp_in hc ha b0 k.2).2.2⟩, fun k => ?_⟩
    obtain ⟨s1, s2, _⟩ := sp_in hc ha b0 k.2
    have k2 := k.2
    rw [s1, s2, i64w (by omega)]; exact ⟨rfl, rfl⟩
  · have hn : 0 ≤ 0 - a := by omega
    have em : a * b = -((0 - a) * b) := by rw [Int.zero_sub, Int.neg_mul, Int.neg_neg]
    have q0 : 0 ≤ (0 - a) * b / c := Int.ediv_nonneg (Int.mul_nonneg hn b0) (by omega)
    rw [em]
    by_cases k : (0 - a) * b / c ≤ 1152921504606846976
    · obtain ⟨s1, s2, s3⟩ := sp_in hc hn b0 k
      rcases neg_part (x := (0 - a) * b) hc.1 with ⟨z, n1, n2⟩ | ⟨z, n1, n2⟩
      · obtain ⟨e1, e2, e3⟩ := raw_2 (b := b) (c := c) ha (by rw [s2]; exact z)
        rw [e1, e2, e3, n1, n2, s1, s3, i64w (e := (0 - a) * b / c) (by omega), i64w (by omega)]
        refine ⟨⟨fun _ => ⟨by omega, by omega⟩, fun _ => rfl⟩, fun _ => ⟨by omega, rfl⟩⟩
      · obtain ⟨e1, e2, e3⟩ := raw_3 (b := b) (c := c) ha (by rw [s2]; omega)
        rw [e1, e2, e3, n1, n2, s1, s2, s3, i64w (e := (0 - a) * b / c) (by omega), i64w (e := 0 - _) (by omega), i64w (by omega)]
        refine ⟨?_, fun _ => ⟨by omega, rfl⟩⟩
        unfold Amt
        simp only [Bool.true_and, decide_eq_true_eq]
        omega
    · have sb : spB (0 - a) b c = false := by
        rw [Bool.eq_false_iff]; exact fun q => k (sp_out hc hn b0 q)
      have na : ¬ Amt (-((0 - a) * b) / c) := by
        unfold Amt
        rcases neg_part (x := (0 - a) * b) hc.1 with ⟨z, n1, n2⟩ | ⟨z, n1, n2⟩ <;> omega
      have rb : rawB a b c = false := by
        by_cases z : spR (0 - a) b c = 0
        · rw [(raw_2 (b := b) (c := c) ha z).2.2]; exact sb
        · rw [(raw_3 (b := b) (c := c) ha z).2.2, sb]; rfl
      rw [rb]
      exact ⟨⟨fun q => (nomatch q), fun q => absurd q na⟩, fun q => absurd q na⟩
theorem raw_ok {a b c : Int} (h : POk a b c) (k : rawB a b c = true) : Amt (a * b / c) ∧ rawQ a b c = a * b / c ∧ rawR a b c = a * b % c := ⟨(raw_at h).1.1 k, (raw_at h).2 ((raw_at h).1.1 k)⟩
theorem raw_nok {a b c : Int} (h : POk a b c) (k : ¬ rawB a b c = true) : ¬ Amt (a * b / c) := fun q => k ((raw_at h).1.2 q)
end M
set_option maxHeartbeats 1000000 in
theorem v_raw (a b c : Int) (h : M.POk a b c) : V.Fn Try.prog 75 [] [.one (.val (.int .i64 a)), .one (.val (.int .i64 b)), .one (.val (.int .i64 c))] (.tuple #[.int .i64 (M.rawQ a b c), .int .i64 (M.rawR a b c), .bool (M.rawB a b c)]) := by
  obtain ⟨⟨a0, a1⟩, ⟨b0, b1⟩, c0, c1⟩ := h
  have r1 := M.spR_bd (a := a) (b := b) c0
  have r2 := M.spR_bd (a := 0 - a) (b := b) c0
  refine V.Fn.mk_ V.Tok V.mixed Try.func75 rfl Try.ntmps75 (by kernel_rfl) rfl rfl ?_
  repeat' ((conv => whnf); first | refine V.NCond.mk ?_ | refine V.NIf.not_ ?_ | refine V.NIf.dec_ ?_ | refine V.a4 ?_ | refine V.a5 ?_ | refine V.NIf.mk (fun _ => ?_) (fun _ => ?_) | refine V.a7 ?_ | refine V.a8 ?_ | refine V.a9 ?_ | refine V.NBoth.mk ?_ ?_ | refine V.b1 ?_ | refine V.b2 ?_ | refine V.NTF.dec ?_ | refine V.b3 ?_ | refine V.b4 ?_ | (first | refine V.Fn.k0 (v_split a b c (by omega) (by omega) (by omega)) rfl ?_ | refine V.Fn.q0 (v_split a b c (by omega) (by omega) (by omega)) rfl ?_ | refine V.Fn.a0 (v_split a b c (by omega) (by omega) (by omega)) rfl ?_) | (first | refine V.Fn.k0 (v_split (0 - a) b c (by omega) (by omega) (by omega)) rfl ?_ | refine V.Fn.q0 (v_split (0 - a) b c (by omega) (by omega) (by omega)) rfl ?_ | refine V.Fn.a0 (v_split (0 - a) b c (by omega) (by omega) (by omega)) rfl ?_) | (refine NWrap.mk ?_) | (refine V.NDraw.any (by kernel_rfl) ?_) | fail)
  · obtain ⟨e1, e2, e3⟩ := M.raw_1 (a := a) (b := b) (c := c) (by assumption)
    rw [e1, e2, e3]; exact V.S_
  · obtain ⟨e1, e2, e3⟩ := M.raw_2 (a := a) (b := b) (c := c) (by assumption) (by assumption)
    rw [e1, e2, e3]; exact V.S_
  all_goals obtain ⟨e1, e2, e3⟩ := M.raw_3 (a := a) (b := b) (c := c) (by assumption) (by assumption)
  all_goals rw [e1, e2, e3]
  all_goals (conv => whnf)
  all_goals (repeat' (first | exact rfl | exact trivial | (refine ⟨_, rfl, ?_⟩; simp_all; done) | (refine ⟨?_, ?_⟩) | exact congrArg Value.bool (by simp_all) | (simp_all; done)))
theorem v_mcheck (a b c : Int) : V.Fn Try.prog 74 [] [.one (.val (.int .i64 a)), .one (.val (.int .i64 b)), .one (.val (.int .i64 c))] (.int .i64 (M.ckE a b c)) := by
  refine V.Fn.mk_ V.Tok V.mixed Try.func74 rfl Try.ntmps74 (by kernel_rfl) rfl rfl ?_
  repeat' ((conv => whnf); first | refine V.NCond.mk ?_ | refine V.NIf.not_ ?_ | refine V.NIf.dec_ ?_ | refine V.a4 ?_ | refine V.a5 ?_ | refine V.NIf.mk (fun _ => ?_) (fun _ => ?_) | refine V.a7 ?_ | refine V.a8 ?_ | refine V.a9 ?_ | refine V.NBoth.mk ?_ ?_ | refine V.b1 ?_ | refine V.b2 ?_ | refine V.NTF.dec ?_ | refine V.b3 ?_ | refine V.b4 ?_ | (first | refine V.Fn.k0 (v_check _) rfl ?_ | refine V.Fn.q0 (v_check _) rfl ?_ | refine V.Fn.a0 (v_check _) rfl ?_) | (first | refine V.Fn.k0 (v_mwithin _ _ _) rfl ?_ | refine V.Fn.q0 (v_mwithin _ _ _) rfl ?_ | refine V.Fn.a0 (v_mwithin _ _ _) rfl ?_) | (refine V.NDraw.any (by kernel_rfl) ?_) | fail)
  all_goals (conv => whnf)
  all_goals refine congrArg (Value.int .i64) ?_
  all_goals first
    | exact (M.ck_yes ⟨M.chk_ok (by assumption), by omega, by omega⟩).symm
    | exact (M.ck_no fun q => by have := q.2; omega).symm
    | (have k := M.chk_nok (a := a) (by assumption); rw [M.ck_no fun q => k q.1, M.chk_no k])
theorem v_part (a b c : Int) : V.Fn Try.prog 28 [] [.one (.val (.int .i64 a)), .one (.val (.int .i64 b)), .one (.val (.int .i64 c))] (.tuple #[.int .i64 (M.prQ a b c), .int .i64 (M.prR a b c), .int .i64 (M.prE a b c)]) := by
  refine V.Fn.mk_ V.Tok V.mixed Try.func28 rfl Try.ntmps28 (by kernel_rfl) rfl rfl ?_
  repeat' ((conv => whnf); first | refine V.NCond.mk ?_ | refine V.NIf.not_ ?_ | refine V.NIf.dec_ ?_ | refine V.a4 ?_ | refine V.a5 ?_ | refine V.NIf.mk (fun _ => ?_) (fun _ => ?_) | refine V.a7 ?_ | refine V.a8 ?_ | refine V.a9 ?_ | refine V.NBoth.mk ?_ ?_ | refine V.b1 ?_ | refine V.b2 ?_ | refine V.NTF.dec ?_ | refine V.b3 ?_ | refine V.b4 ?_ | (first | refine V.Fn.k0 (v_mcheck _ _ _) rfl ?_ | refine V.Fn.q0 (v_mcheck _ _ _) rfl ?_ | refine V.Fn.a0 (v_mcheck _ _ _) rfl ?_) | (first | refine V.Fn.k0 (v_raw a b c (M.ck_ok (by assumption))) rfl ?_ | refine V.Fn.q0 (v_raw a b c (M.ck_ok (by assumption))) rfl ?_ | refine V.Fn.a0 (v_raw a b c (M.ck_ok (by assumption))) rfl ?_) | (refine V.NDraw.any (by kernel_rfl) ?_) | fail)
  · have h := M.ck_ok (by assumption)
    obtain ⟨k, e1, e2⟩ := M.raw_ok h (by assumption)
    rw [e1, e2, (M.pr_3 h k).1, (M.pr_3 h k).2.1, (M.pr_3 h k).2.2]; exact V.S_
  · have h := M.ck_ok (by assumption)
    have k := M.raw_nok h (by assumption)
    rw [(M.pr_2 h k).1, (M.pr_2 h k).2.1, (M.pr_2 h k).2.2]; exact V.S_
  · have h := M.ck_nok (by assumption)
    rw [(M.pr_1 h).1, (M.pr_1 h).2.1, (M.pr_1 h).2.2, M.ck_no h]; exact V.S_
end Go.Proofs.Ytdeekpcfmgfmcaa

/- What the document's answers on amounts are. -/
namespace Go.Proofs.Ytdeekpcfmgfmcaa
open Go Go.RowKit V
set_option maxRecDepth 100000
set_option linter.unusedVariables false
namespace M
end M
namespace M
end M
namespace M
end M
end Go.Proofs.Ytdeekpcfmgfmcaa

/- What the functions on prices answer. -/
namespace Go.Proofs.Ytdeekpcfmgfmcaa
open Go Go.RowKit V
set_option maxRecDepth 100000
set_option linter.unusedVariables false
theorem v_pcheck (p : Int) : V.Fn Try.prog 51 [] [.one (.val (.int .i64 p))] (.int .i64 (P.chk p)) := by
  refine V.Fn.mk_ V.Tok V.mixed Try.func51 rfl Try.ntmps51 (by kernel_rfl) rfl rfl ?_
  repeat' ((conv => whnf); first | refine V.NCond.mk ?_ | refine V.NIf.not_ ?_ | refine V.NIf.dec_ ?_ | refine V.a4 ?_ | refine V.a5 ?_ | refine V.NIf.mk (fun _ => ?_) (fun _ => ?_) | refine V.a7 ?_ | refine V.a8 ?_ | refine V.a9 ?_ | refine V.NBoth.mk ?_ ?_ | refine V.b1 ?_ | refine V.b2 ?_ | refine V.NTF.dec ?_ | refine V.b3 ?_ | refine V.b4 ?_ | (refine V.NDraw.any (by kernel_rfl) ?_) | fail)
  all_goals ((conv => whnf); refine congrArg _ ?_; unfold P.chk P.Ok; (repeat' split) <;> first | rfl | omega | (exfalso; omega) | (simp_all; done) | (simp_all; omega))
theorem v_cost (u p : Int) : V.Fn Try.prog 27 [] [.one (.val (.int .i64 u)), .one (.val (.int .i64 p))] (.tuple #[.int .i64 (M.prQ u p 10000), .int .i64 (M.prR u p 10000), .int .i64 (M.prE u p 10000)]) := by
  have h1 : ¬ M.chk u = 0 → M.prE u p 10000 = 3 ∧ M.prQ u p 10000 = 0 ∧ M.prR u p 10000 = 0 ∧ M.chk u = 3 := fun h => by
    by_cases q : M.Amt u
    · exact absurd (M.chk_yes q) h
    · obtain ⟨a, b, c⟩ := M.pr_1 (a := u) (b := p) (c := 10000) (fun k => q k.1)
      exact ⟨a, b, c, M.chk_no q⟩
  have h2 : ¬ P.chk p = 0 → M.prE u p 10000 = 3 ∧ M.prQ u p 10000 = 0 ∧ M.prR u p 10000 = 0 ∧ P.chk p = 3 := fun h => by
    by_cases q : P.Ok p
    · exact absurd (P.chk_yes q) h
    · obtain ⟨a, b, c⟩ := M.pr_1 (a := u) (b := p) (c := 10000) (fun k => q k.2.1)
      exact ⟨a, b, c, P.chk_no q⟩
  refine V.Fn.mk_ V.Tok V.mixed Try.func27 rfl Try.ntmps27 (by kernel_rfl) rfl rfl ?_
  repeat' ((conv => whnf); first | refine V.NCond.mk ?_ | refine V.NIf.not_ ?_ | refine V.NIf.dec_ ?_ | refine V.a4 ?_ | refine V.a5 ?_ | refine V.NIf.mk (fun _ => ?_) (fun _ => ?_) | refine V.a7 ?_ | refine V.a8 ?_ | refine V.a9 ?_ | refine V.NBoth.mk ?_ ?_ | refine V.b1 ?_ | refine V.b2 ?_ | refine V.NTF.dec ?_ | refine V.b3 ?_ | refine V.b4 ?_ | (first | refine V.Fn.k0 (v_check _) rfl ?_ | refine V.Fn.q0 (v_check _) rfl ?_ | refine V.Fn.a0 (v_check _) rfl ?_) | (first | refine V.Fn.k0 (v_pcheck _) rfl ?_ | refine V.Fn.q0 (v_pcheck _) rfl ?_ | refine V.Fn.a0 (v_pcheck _) rfl ?_) | (first | refine V.Fn.k0 (v_part _ _ _) rfl ?_ | refine V.Fn.q0 (v_part _ _ _) rfl ?_ | refine V.Fn.a0 (v_part _ _ _) rfl ?_) | (refine V.NDraw.any (by kernel_rfl) ?_) | fail)
  all_goals (conv => whnf)
  · exact V.S_
  · obtain ⟨a, b, c, d⟩ := h2 (by assumption)
    rw [a, b, c, d]; exact V.S_
  · obtain ⟨a, b, c, d⟩ := h1 (by assumption)
    rw [a, b, c, d]; exact V.S_
theorem v_prices (l : List Int) (hn : l.length ≤ 9223372036854775807) : V.Fn Try.prog 14 [.arr 1 l.length (ga e1 l)] [.one (.ref 0)] (.int .i64 (P.chks l)) := by
  refine V.Fn.mk_ V.Tok V.mixed Try.func14 rfl Try.ntmps14 (by kernel_rfl) rfl rfl ?_
  repeat' ((conv => whnf); first | refine V.NCond.mk ?_ | refine V.NIf.not_ ?_ | refine V.NIf.dec_ ?_ | refine V.a4 ?_ | refine V.a5 ?_ | refine V.NIf.mk (fun _ => ?_) (fun _ => ?_) | refine V.a7 ?_ | refine V.a8 ?_ | refine V.a9 ?_ | refine V.NBoth.mk ?_ ?_ | refine V.b1 ?_ | refine V.b2 ?_ | refine V.NTF.dec ?_ | refine V.b3 ?_ | refine V.b4 ?_ | (refine V.NDraw.any (by kernel_rfl) ?_) | fail)
  all_goals (conv => whnf)
  rotate_left
  · exact V.fin1 (if_pos (by omega))
  refine V.NLoop.auto (fun (k : Nat) => [(11, .one (.val (.int .i64 k)))]) (fun (k : Nat) => []) [] [] (fun (k : Nat) => l.length - k) (fun (k : Nat) => k ≤ l.length ∧ ∀ p ∈ l.take k, P.Ok p) 0 ⟨Nat.zero_le _, by simp⟩ V.S_ V.S_ (fun _ => ⟨rfl, rfl⟩) ?_; (conv => whnf); refine ⟨⟨rfl, rfl⟩, ?_⟩
  rintro k ⟨hk, hJ⟩
  by_cases hlt : k < l.length
  · have hy := @P.chk_yes (l.getD k default)
    have hn := @P.chk_no (l.getD k default)
    by_cases ok : P.Ok (l.getD k default)
    · have e := hy ok
      repeat' ((conv => whnf); first | refine V.NCond.mk ?_ | refine V.NIf.not_ ?_ | refine V.NIf.dec_ ?_ | refine V.a4 ?_ | refine V.a5 ?_ | refine V.NIf.mk (fun _ => ?_) (fun _ => ?_) | refine V.a7 ?_ | refine V.a8 ?_ | refine V.a9 ?_ | refine V.NBoth.mk ?_ ?_ | refine V.b1 ?_ | refine V.b2 ?_ | refine V.NTF.dec ?_ | refine V.b3 ?_ | refine V.b4 ?_ | (refine NIdx.mk ⟨k, rfl, by omega, ?_⟩) | (first | refine V.Fn.k0 (v_pcheck _) rfl ?_ | refine V.Fn.q0 (v_pcheck _) rfl ?_ | refine V.Fn.a0 (v_pcheck _) rfl ?_) | (refine V.NDraw.any (by kernel_rfl) ?_) | fail)
      all_goals (conv => whnf)
      all_goals exact V.NBack.at_ (k + 1) [] ⟨by omega, all_snoc hlt hJ ok⟩ (by omega) V.S_ rfl V.S_ V.S_ V.S_
    · have e := hn ok
      have e2 := P.chks_bad (by omega) (getD_mem hlt) ok
      repeat' ((conv => whnf); first | refine V.NCond.mk ?_ | refine V.NIf.not_ ?_ | refine V.NIf.dec_ ?_ | refine V.a4 ?_ | refine V.a5 ?_ | refine V.NIf.mk (fun _ => ?_) (fun _ => ?_) | refine V.a7 ?_ | refine V.a8 ?_ | refine V.a9 ?_ | refine V.NBoth.mk ?_ ?_ | refine V.b1 ?_ | refine V.b2 ?_ | refine V.NTF.dec ?_ | refine V.b3 ?_ | refine V.b4 ?_ | (refine NIdx.mk ⟨k, rfl, by omega, ?_⟩) | (first | refine V.Fn.k0 (v_pcheck _) rfl ?_ | refine V.Fn.q0 (v_pcheck _) rfl ?_ | refine V.Fn.a0 (v_pcheck _) rfl ?_) | (refine V.NDraw.any (by kernel_rfl) ?_) | fail)
      all_goals (conv => whnf)
      all_goals exact V.fin1 (by omega)
  · have e := P.chks_of (l := l) (by omega) (all_whole (by omega) hJ)
    repeat' ((conv => whnf); first | refine V.NCond.mk ?_ | refine V.NIf.not_ ?_ | refine V.NIf.dec_ ?_ | refine V.a4 ?_ | refine V.a5 ?_ | refine V.NIf.mk (fun _ => ?_) (fun _ => ?_) | refine V.a7 ?_ | refine V.a8 ?_ | refine V.a9 ?_ | refine V.NBoth.mk ?_ ?_ | refine V.b1 ?_ | refine V.b2 ?_ | refine V.NTF.dec ?_ | refine V.b3 ?_ | refine V.b4 ?_ | (refine V.NDraw.any (by kernel_rfl) ?_) | fail)
    all_goals (conv => whnf)
    all_goals exact V.fin1 (by omega)
end Go.Proofs.Ytdeekpcfmgfmcaa

/- Ranges over functions, walked by verification conditions: the iterator is walked in place, and the loop's body where the iterator calls yield. -/
namespace Go.Proofs.Ytdeekpcfmgfmcaa.V
open Go Go.RowKit
set_option linter.unusedVariables false
set_option linter.unusedSimpArgs false

def lpK (obs : Obs) (i : Nat) (K : Lc → Env → Lst → Prop) : Prop := fndK obs i fun o => match o with
  | .lp L env st => K L env st
  | _ => False
theorem lpK_spec {obs : Obs} {i : Nat} {K : Lc → Env → Lst → Prop} (h : lpK obs i K) : ∃ L env st, fnd obs i = some (.lp L env st) ∧ K L env st := by
  obtain ⟨o, ho, h⟩ := fndK_spec h
  cases o <;> first | exact h.elim | exact ⟨_, _, _, ho, h⟩
/-- the parameters of a round -/
def zipK (sz : Nat) : List Nat → List SV → Env → (Env → Prop) → Prop
  | [], [], env, K => K env
  | p :: ps, v :: vs, env, K => match Nat.blt p sz with
    | true => zipK sz ps vs ((p, v) :: env) K
    | false => False
  | _, _, _, _ => False
theorem zip_spec {sz : Nat} {ρ : Rho} : ∀ {ps : List Nat} {vs : List SV} {xs : List Value} {env : Env} {tmps : Array Value} {K : Env → Prop}, EnvR sz ρ env { tmps := tmps, defers := [] } → Svs ρ vs xs → zipK sz ps vs env K →
    ∃ env', K env' ∧ xs.length = ps.length ∧ EnvR sz ρ env' { tmps := (ps.zip xs).foldl (fun t (p : Nat × Value) => t.setIfInBounds p.1 p.2) tmps, defers := [] }
  | [], [], xs, env, tmps, K, hE, hs, h => by
    have e : xs = [] := hs
    subst e
    exact ⟨env, h, rfl, hE⟩
  | p :: ps, v :: vs, xs, env, tmps, K, hE, ⟨x, r, e, hv, hr⟩, h => by
    subst e
    unfold zipK at h
    cases hb : Nat.blt p sz <;> simp only [hb] at h
    have hd : p < sz := by simpa [Nat.blt_eq] using hb
    have hsz : tmps.size = sz := hE.size
    have hE' : EnvR sz ρ ((p, v) :: env) { tmps := tmps.setIfInBounds p x, defers := [] } := by
      refine ⟨by simp [hsz], fun t u hu => ?_⟩
      rcases fnd_cons hu with ⟨rfl, rfl⟩ | ⟨hn, hu⟩
      · exact ⟨x, by simp [hsz, hd], SV.is_of1 hv⟩
      · obtain ⟨y, hy, h2⟩ := hE.env t u hu
        exact ⟨y, by rw [Array.getElem?_setIfInBounds_ne hn]; exact hy, h2⟩
    obtain ⟨env', hK, hl, hE2⟩ := zip_spec hE' hr h
    exact ⟨env', hK, by simp [hl], hE2⟩
  | [], _ :: _, _, _, _, _, _, _, h => h.elim
  | _ :: _, [], _, _, _, _, _, _, h => h.elim
/-- what becomes of the record at a round's end -/
def rndK (i : Nat) (K : SV → Obs → Nat → Prop) : Kon := fun e _ obs nx => lpK obs i fun L env st => match st with
  | .busy => match e with
    | .nrm => K (.one (.tf true)) ((i, .lp L env .ready) :: obs) nx
    | .exit id => K (.one (.tf false)) ((i, .lp L env (.done (.exit id))) :: obs) nx
    | .ret => K (.one (.tf false)) ((i, .lp L env (.done .ret)) :: obs) nx
  | _ => False
/-- what is done when the iterator has returned -/
def endK (i : Nat) (env : Env) (K : Kon) (obs : Obs) (nx : Nat) : Prop := lpK obs i fun _ _ st => match st with
  | .ready => K .nrm env ((i, .gone) :: obs) nx
  | .done (.exit id) => K (.exit id) env ((i, .gone) :: obs) nx
  | .done .ret => K .ret env ((i, .gone) :: obs) nx
  | _ => False
theorem put_below {B l : Nat} {w : World} (h : B ≤ l) (o : Obj) : Below B w (w.putObj l o) :=
  ⟨rfl, rfl, rfl, by rw [World.putObj_size]; exact Nat.le_refl _, fun k hk => World.putObj_heap_other (by omega)⟩
theorem put_oth {l : Nat} {w : World} {r : Loop} (h : w.heap[l]? = some (.loop r)) (o : Obj) : Oth w (w.putObj l o) :=
  oth_one (b := l) (fun k hk => World.putObj_heap_other hk) fun D e => by rw [h] at e; cases e
theorem Cls.lpset {B nx : Nat} {ρ : Rho} {obs : Obs} {w : World} {i l : Nat} {L : Lc} {env : Env} {st : Lst} (hC : Cls B ρ obs nx w) (ho : fnd obs i = some (.lp L env st)) (hl : ρ i = some (.func (.yield l) #[] #[])) :
    ∃ fn tmps D, B ≤ l ∧ w.heap[l]? = some (.loop { state := st.state, pending := st.pend, fn := fn, tmps := tmps, params := L.ps.toArray, assign := L.assign, body := L.body, defers := D }) ∧
      ∀ st' : Lst, Cls B ρ ((i, .lp L env st') :: obs) nx (w.putObj l (.loop { state := st'.state, pending := st'.pend, fn := fn, tmps := tmps, params := L.ps.toArray, assign := L.assign, body := L.body, defers := D })) := by
  obtain ⟨l', fn, tmps, D, e, hB, hh, hE⟩ := hC.sat i _ ho
  rw [hl] at e
  have e : l = l' := by injection e with e; injection e with e; injection e
  subst e
  have hf : ∀ st' : Lst, foot ρ i (.lp L env st') = some l := fun st' => by simp [foot, hl]
  exact ⟨fn, tmps, D, hB, hh, fun st' => hC.set ho rfl (hf st) (.inl (hf st')) rfl World.putObj_size (fun k hk => World.putObj_heap_other hk)
    ⟨l, fn, tmps, D, hl, hB, World.putObj_heap_same (Array.getElem?_eq_some_iff.1 hh).1, hE⟩⟩
theorem Cls.kill {B nx : Nat} {ρ : Rho} {obs : Obs} {w w' : World} {i b : Nat} {o : Ob} (h : Cls B ρ obs nx w) (ho : fnd obs i = some o) (hm : o.mut = true) (hf : foot ρ i o = some b) (hsz : w'.heap.size = w.heap.size) (hk : ∀ k, k ≠ b → w'.heap[k]? = w.heap[k]?) : Cls B ρ ((i, .gone) :: obs) nx w' := by
  refine ⟨by rw [hsz]; exact h.le, fun j u hu => ?_, fun j k o1 o2 c h1 h2 hne hmu hf1 => ?_, h.new, Apx.cons (o' := .gone) h.apx (fun _ _ _ _ => rfl) fun _ _ _ _ _ _ q => by cases q⟩
  · rcases fnd_cons hu with ⟨rfl, rfl⟩ | ⟨hn, hu⟩
    · trivial
    · exact (h.sat j u hu).keep (by omega) (fun c hc => hk c (fun e => by subst e; exact h.apart i j o u c ho hu hn hm hf hc)) fun c hc => hk c fun e => by subst e; exact (h.apx j i u o c hu ho hc).1 hf
  · rcases fnd_cons h1 with ⟨rfl, rfl⟩ | ⟨hn1, h1⟩
    · cases hf1
    · rcases fnd_cons h2 with ⟨rfl, rfl⟩ | ⟨hn2, h2⟩
      · intro e; cases e
      · exact h.apart j k o1 o2 c h1 h2 hne hmu hf1

/-- a round -/
theorem NYield.mk_ {P : Program} {T : TT} (hT : TTok P T) (hm : P.follows .mixedOrders = true) {i : Nat} {L : Lc} {env0 : Env} {sz : Nat} {ps : List Nat} {assign body : Code} (hL : L = ⟨sz, ps, assign, body⟩) (hc : (calm assign && calm body) = true)
    {args : List SV} {obs : Obs} {nx : Nat} {K : SV → Obs → Nat → Prop} (ho : fnd obs i = some (.lp L env0 .ready))
    (h : zipK sz ps args env0 fun env => vc P T sz nx assign env obs nx fun e env1 obs1 nx1 => match e with
      | .nrm => lpK obs1 i fun L1 e1 st => match st with
        | .ready => vc P T sz nx body env1 ((i, .lp L1 e1 .busy) :: obs1) nx1 (rndK i K)
        | _ => False
      | _ => False) : NYield P i args obs nx K :=
  ⟨fun B ρ w xs l n hC hs hl => by
    subst hL
    simp only [Bool.and_eq_true] at hc
    obtain ⟨l', fn, tmps, D, e, hB, hh, hE0⟩ := hC.sat i _ ho
    rw [hl] at e
    have e : l = l' := by injection e with e; injection e with e; injection e
    subst e
    obtain ⟨env, h, hlen, hE⟩ := zip_spec hE0 hs h
    have hy := run_yield (P := P) (args := xs.toArray) hh (by simp [hlen])
    have hin : i < nx := by
      rcases Nat.lt_or_ge i nx with q | q
      · exact q
      · rw [hC.new i q] at hl; cases hl
    have ex : ∀ {ρ1 : Rho} {ds : List Deferred} {w1 : World}, Wy B ⟨w, ρ, nx⟩ ρ1 ds w1 → ∀ j y, ρ j = some y → ρ1 j = some y := fun {ρ1 ds w1} hW j y hy => by
      by_cases hj : j < nx
      · exact hW.e j y hj hy
      · rw [hC.new j (by omega)] at hy; cases hy
    refine ⟨fn, _, assign, body, hy, roundIn_of_wpIn trivial ?_⟩
    have et : ((ps.toArray.zip xs.toArray).foldl (fun t (x : Nat × Value) => match x with | (t', a) => t.setIfInBounds t' a) tmps) = (ps.zip xs).foldl (fun t (p : Nat × Value) => t.setIfInBounds p.1 p.2) tmps := by
      rw [← Array.foldl_toList, Array.toList_zip]
    rw [et]
    have h1 := vc_sound (ro := some l) (n := n) (w0 := ⟨w, ρ, nx⟩) hT hm assign (.inr hc.1) h hE hC ⟨Below.refl _ _, Oth.refl _, fun _ _ _ h => h, [], rfl, List.nodup_nil, by simp⟩
    refine wpIn_mono h1 ?_
    intro e a1 w1 q
    cases e with
    | normal =>
      obtain ⟨ρ1, env1, obs1, nx1, hk, hE1, hC1, hW1⟩ := q
      obtain ⟨L1, e1, st, ho1, hk⟩ := lpK_spec hk
      split at hk
      rotate_left
      · exact hk.elim
      have hl1 := ex hW1 _ _ hl
      obtain ⟨fn1, tmps1, D1, _, hh1, hset⟩ := hC1.lpset ho1 hl1
      refine ⟨_, run_beginRound hh1 rfl, ?_⟩
      have h2 := vc_sound (ro := some l) (n := n) (w0 := ⟨w, ρ, nx⟩) hT hm body (.inr hc.2) hk hE1 (hset .busy) (hW1.trans (put_below hB _) (put_oth hh1 _))
      refine wpIn_mono h2 ?_
      intro e a2 w2 q
      have fin : ∀ (e : Ex) (st : Lst) (b : Bool) (K2 : Env → Obs → Nat → Prop), Nx B ⟨w, ρ, nx⟩ sz K2 a2 w2 → (∀ env2 obs2 nx2, K2 env2 obs2 nx2 → lpK obs2 i fun L env s => match s with
            | .busy => K (.one (.tf b)) ((i, .lp L env st) :: obs2) nx2
            | _ => False) → st ≠ .busy → b = st.pend.isNone → st.state = (if st.pend.isNone then .ready else .done) →
          ∃ v w', (Instr.endRound l st.pend).run P w2 = .ok v w' ∧ ∃ u obs' nx' ρ' x, K u obs' nx' ∧ (∀ i y, ρ i = some y → ρ' i = some y) ∧ Ending.returned v = .returned x ∧ u.is ρ' x ∧ Cls B ρ' obs' nx' w' ∧ Below B w w' ∧ Oth w w' := by
        rintro e st b K2 ⟨ρ2, env2, obs2, nx2, hk2, hE2, hC2, hW2⟩ hK hnb hb hst
        obtain ⟨L2, e2, s2, ho2, hk2⟩ := lpK_spec (hK _ _ _ hk2)
        split at hk2
        rotate_left
        · exact hk2.elim
        obtain ⟨fn2, tmps2, D2, _, hh2, hset2⟩ := hC2.lpset ho2 (ex hW2 _ _ hl)
        refine ⟨_, _, run_endRound st.pend hh2, _, _, _, ρ2, _, hk2, ex hW2, rfl, ?_, ?_, hW2.b.trans (put_below hB _), hW2.o.trans (put_oth hh2 _)⟩
        · subst hb; exact rfl
        · have := hset2 st
          rw [hst] at this
          exact this
      cases e with
      | normal => exact fin .nrm .ready true _ q (fun _ _ _ h => h) (fun q => by cases q) rfl rfl
      | ret => exact fin .ret (.done .ret) false _ q (fun _ _ _ h => h) (fun q => by cases q) rfl rfl
      | exit id => exact fin (.exit id) (.done (.exit id)) false _ q (fun _ _ _ h => h) (fun q => by cases q) rfl rfl
      | goto t => exact q.elim
      | panic c => exact q.elim
      | outgrown => exact q.elim
    | exit id => obtain ⟨_, _, _, _, hk, _⟩ := q; exact hk.elim
    | ret => obtain ⟨_, _, _, _, hk, _⟩ := q; exact hk.elim
    | goto t => exact q
    | panic c => exact q
    | outgrown => exact q⟩
structure NIs (a b : Nat) (K : Prop) : Prop where
  e : a = b
  h : K
theorem run_enter {P : Program} {f : FuncId} (hb : hasBody P f = true) (args : Array Value) (w : World) : (callFunc f args).run P w = .ok (.enter f args) w := by
  unfold hasBody at hb
  cases hf : P.funcs[f]? with
  | none => rw [hf] at hb; cases hb
  | some fn =>
    rw [hf] at hb
    simp only [Bool.and_eq_true, Bool.not_eq_true', Option.isSome_iff_ne_none] at hb
    obtain ⟨h1, h2⟩ := hb
    have h3 : fn.body.isNone = false := by cases hq : fn.body with | none => exact absurd hq h1 | some c => rfl
    have h4 : ¬ fn.name = "runtime.NumGoroutine" := by simpa using h2
    simp [callFunc, hf, h4, h3, Sem.run_bind]
    exact fun q => absurd q h1
/-! a row that the rounds change takes a new name -/
def mvA (i j : Nat) : At → At
  | .ref k => match Nat.beq k i with
    | true => .ref j
    | false => .ref k
  | a => a
def mvOb (i j : Nat) : Ob → Ob
  | .box t l => .box t (l.map (mvA i j))
  | o => o
def mvObs (i j : Nat) : Obs → Obs
  | [] => []
  | (k, o) :: r => match Nat.beq k i with
    | true => (k, .gone) :: mvObs i j r
    | false => (k, mvOb i j o) :: mvObs i j r
theorem mvObs_get {i j k : Nat} {o : Ob} : ∀ {obs : Obs}, fnd (mvObs i j obs) k = some o → (k = i ∧ o = .gone) ∨ (k ≠ i ∧ ∃ o', fnd obs k = some o' ∧ o = mvOb i j o')
  | [], h => by cases h
  | (u, x) :: r, h => by
    unfold mvObs at h
    cases hb : Nat.beq u i <;> simp only [hb] at h
    · rcases fnd_cons h with ⟨rfl, rfl⟩ | ⟨hn, h⟩
      · exact .inr ⟨Nat.ne_of_beq_eq_false hb, x, by unfold fnd; rw [Nat.beq_refl], rfl⟩
      · rcases mvObs_get h with q | ⟨q, o', h1, h2⟩
        · exact .inl q
        · refine .inr ⟨q, o', ?_, h2⟩
          unfold fnd
          cases hb2 : Nat.beq u k
          · exact h1
          · exact absurd (Nat.eq_of_beq_eq_true hb2) hn
    · have e := Nat.eq_of_beq_eq_true hb
      subst e
      rcases fnd_cons h with ⟨rfl, rfl⟩ | ⟨hn, h⟩
      · exact .inl ⟨rfl, rfl⟩
      · rcases mvObs_get h with q | ⟨q, o', h1, h2⟩
        · exact .inl q
        · refine .inr ⟨q, o', ?_, h2⟩
          unfold fnd
          cases hb2 : Nat.beq u k
          · exact h1
          · exact absurd (Nat.eq_of_beq_eq_true hb2) hn
theorem Ats.mv {i j : Nat} {ρ : Rho} (hj : ρ j = ρ i) : ∀ {l : List At} {x : List Value}, Ats ρ l x → Ats ρ (l.map (mvA i j)) x
  | [], _, h => h
  | a :: l, _, ⟨u, r, hx, ha, hr⟩ => by
    refine ⟨u, r, hx, ?_, Ats.mv hj hr⟩
    cases a with
    | ref k =>
      show (mvA i j (.ref k)).is ρ u
      simp only [mvA]
      cases hb : Nat.beq k i
      · exact ha
      · have e := Nat.eq_of_beq_eq_true hb
        subst e
        exact ⟨hj.trans ha.1, ha.2⟩
    | _ => exact ha
theorem foot_mv {ρ : Rho} {i j k : Nat} {o : Ob} : foot ρ k (mvOb i j o) = foot ρ k o := by cases o <;> rfl
def mvAsK (i j : Nat) : List At → (List At → Prop) → Prop
  | [], K => K []
  | a :: l, K => match a with
    | .ref k => match Nat.beq k i with
      | true => mvAsK i j l fun r => K (.ref j :: r)
      | false => mvAsK i j l fun r => K (.ref k :: r)
    | a => mvAsK i j l fun r => K (a :: r)
theorem mvAsK_eq {i j : Nat} : ∀ {l : List At} {K : List At → Prop}, mvAsK i j l K → K (l.map (mvA i j))
  | [], _, h => h
  | a :: l, K, h => by
    unfold mvAsK at h
    cases a with
    | ref k =>
      simp only at h
      rw [List.map_cons]
      show K (mvA i j (.ref k) :: _)
      simp only [mvA]
      cases hb : Nat.beq k i <;> simp only [hb] at h ⊢ <;> exact mvAsK_eq (K := fun r => K (_ :: r)) h
    | _ => exact mvAsK_eq (K := fun r => K (_ :: r)) h
def mvK (i j : Nat) : Obs → (Obs → Prop) → Prop
  | [], K => K []
  | (k, o) :: r, K => match Nat.beq k i with
    | true => mvK i j r fun r' => K ((k, .gone) :: r')
    | false => match o with
      | .box t l => mvAsK i j l fun l' => mvK i j r fun r' => K ((k, .box t l') :: r')
      | o => mvK i j r fun r' => K ((k, o) :: r')
theorem mvK_eq {i j : Nat} : ∀ {obs : Obs} {K : Obs → Prop}, mvK i j obs K → K (mvObs i j obs)
  | [], _, h => h
  | (k, o) :: r, K, h => by
    unfold mvK at h
    unfold mvObs
    cases hb : Nat.beq k i <;> simp only [hb] at h ⊢
    · cases o with
      | box t l => exact mvK_eq (K := fun r' => K (_ :: r')) (mvAsK_eq h)
      | _ => exact mvK_eq (K := fun r' => K (_ :: r')) h
    · exact mvK_eq (K := fun r' => K (_ :: r')) h
theorem Cls.mv {B nx : Nat} {ρ : Rho} {obs : Obs} {w : World} (i : Nat) {t s n : Nat} {get : Nat → List Value} (hC : Cls B ρ obs nx w) (ho : fnd obs i = some (.row t s n get)) :
    ∃ ρ', Ext ρ ρ' ∧ Cls B ρ' ((nx, .row t s n get) :: mvObs i nx obs) (nx + 1) w := by
  obtain ⟨v, hv, hr⟩ := hC.sat i _ ho
  have hx : Ext ρ (upd ρ nx v) := ext_upd (hC.new nx (Nat.le_refl _))
  have hne : i ≠ nx := fun e => by rw [e, hC.new nx (Nat.le_refl _)] at hv; cases hv
  have hi : upd ρ nx v nx = upd ρ nx v i := by rw [upd_same, upd_ne v hne, hv]
  have ol : ∀ k o, nx ≠ k → foot (upd ρ nx v) k o = foot ρ k o := fun k o hn => foot_eq (upd_ne v (Ne.symm hn))
  have fnx : foot (upd ρ nx v) nx (.row t s n get) = foot ρ i (.row t s n get) := by rw [foot_at hi, foot_eq (upd_ne v hne)]
  have sm : ∀ o b, sub (mvOb i nx o) b = sub o b := fun o b => by cases o <;> rfl
  have ax : Apx (upd ρ nx v) ((nx, .row t s n get) :: mvObs i nx obs) := fun j k o1 o2 b h1 h2 hb => by
    rcases fnd_cons h1 with ⟨rfl, rfl⟩ | ⟨hn1, h1⟩
    · exact hb.elim
    · rcases mvObs_get h1 with ⟨_, rfl⟩ | ⟨q, o', h3, rfl⟩
      · exact hb.elim
      · rw [sm] at hb
        rcases fnd_cons h2 with ⟨rfl, rfl⟩ | ⟨hn2, h2⟩
        · exact ⟨by rw [fnx]; exact (hC.apx j i o' _ b h3 ho hb).1, fun _ z => z⟩
        · rcases mvObs_get h2 with ⟨_, rfl⟩ | ⟨q2, o2', h4, rfl⟩
          · exact ⟨fun z => (by cases z), fun _ z => z⟩
          · rw [foot_mv, ol _ _ hn2, sm]
            exact hC.apx j k o' o2' b h3 h4 hb
  refine ⟨upd ρ nx v, hx, ⟨hC.le, fun k o hk => ?_, fun j k o1 o2 b h1 h2 hne' hmu hf => ?_, fun k hk => ?_, ax⟩⟩
  · rcases fnd_cons hk with ⟨rfl, rfl⟩ | ⟨hn, hk⟩
    · exact ⟨v, upd_same _ _ _, hr⟩
    · rcases mvObs_get hk with ⟨_, rfl⟩ | ⟨_, o', h1, rfl⟩
      · trivial
      · have hs := (hC.sat k o' h1).ext hx
        cases o' with
        | box t l => obtain ⟨b, cs, e, hB, hl, hh⟩ := hs; exact ⟨b, cs, e, hB, hl.mv hi, hh⟩
        | _ => exact hs
  · rcases fnd_cons h1 with ⟨rfl, rfl⟩ | ⟨hn1, h1⟩
    · rcases fnd_cons h2 with ⟨rfl, rfl⟩ | ⟨hn2, h2⟩
      · exact absurd rfl hne'
      · rw [fnx] at hf
        rcases mvObs_get h2 with ⟨_, rfl⟩ | ⟨q, o', h3, rfl⟩
        · intro e; cases e
        · rw [foot_mv, ol _ _ hn2]
          exact hC.apart i k _ o' b ho h3 (Ne.symm q) rfl hf
    · rcases mvObs_get h1 with ⟨_, rfl⟩ | ⟨q, o', h3, rfl⟩
      · cases hf
      · rw [foot_mv, ol _ _ hn1] at hf
        have hmu' : o'.mut = true := by cases o' <;> exact hmu
        rcases fnd_cons h2 with ⟨rfl, rfl⟩ | ⟨hn2, h2⟩
        · rw [fnx]
          exact hC.apart j i o' _ b h3 ho q hmu' hf
        · rcases mvObs_get h2 with ⟨_, rfl⟩ | ⟨q2, o2', h4, rfl⟩
          · intro e; cases e
          · rw [foot_mv, ol _ _ hn2]
            exact hC.apart j k o' o2' b h3 h4 hne' hmu' hf
  · rw [upd_ne v (by omega)]; exact hC.new k (by omega)
def mvsK : List Nat → Obs → Nat → (Obs → Nat → Prop) → Prop
  | [], obs, n, K => K obs n
  | i :: r, obs, n, K => fndK obs i fun o => match o with
    | .row t s m g => mvK i n obs fun obs' => mvsK r ((n, .row t s m g) :: obs') (n + 1) K
    | _ => False
theorem mvsK_spec {B : Nat} {w : World} : ∀ {l : List Nat} {ρ : Rho} {obs : Obs} {n : Nat} {K : Obs → Nat → Prop}, Cls B ρ obs n w → mvsK l obs n K → ∃ ρ' obs' n', Ext ρ ρ' ∧ Cls B ρ' obs' n' w ∧ K obs' n'
  | [], ρ, obs, n, K, hC, h => ⟨ρ, obs, n, fun _ _ q => q, hC, h⟩
  | i :: r, ρ, obs, n, K, hC, h => by
    obtain ⟨o, ho, h⟩ := fndK_spec h
    cases o with
    | row t s m g =>
      obtain ⟨ρ1, hx1, hC1⟩ := hC.mv i ho
      obtain ⟨ρ2, obs2, n2, hx2, hC2, hK⟩ := mvsK_spec (l := r) hC1 (mvK_eq (K := fun obs' => mvsK r ((n, .row t s m g) :: obs') (n + 1) K) h)
      exact ⟨ρ2, obs2, n2, fun i y q => hx2 _ _ (hx1 _ _ q), hC2, hK⟩
    | _ => exact h.elim
/-- the statement: the iterator in place -/
theorem NRange.inl {P : Program} {T : TT} (hT : TTok P T) (hm : P.follows .mixedOrders = true) {g : FuncId} {gfn : Func} {c : Code} (hf : P.funcs[g]? = some gfn) (hb : gfn.body = some c) {gsz : Nat} (hs : gfn.ntmps = gsz) (hB : hasBody P g = true)
    {sz : Nat} {fo : Operand} {ps : Array Tmp} {assign body : Code} {env : Env} {obs : Obs} {nx : Nat} {K : Kon} (sl ml : List Nat)
    (h0 : evK env fo fun v => match v with
      | .one (.clo g' caps) => NIs g' g (keepK env sl fun env0 => capE [.one (.ref nx)] caps fun args => match Nat.ble args.length gsz with
        | true => ∀ L : Lc, L = ⟨sz, ps.toList, assign, body⟩ → mvsK ml ((nx, .lp L env0 .ready) :: obs) (nx + 1) fun obs0 nx0 => vc P T gsz (nx + 1) c (argEnv 0 args) obs0 nx0 (fnK T gfn.results.toList fun _ obs1 nx1 => endK nx env K obs1 nx1)
        | false => False)
      | _ => False) : NRange P sz fo ps assign body env obs nx K := by
  refine ⟨fun B s ρ a w n hE hC hW => ?_⟩
  obtain ⟨v, hv, h⟩ := evK_spec hE h0
  clear h0
  split at h
  rotate_left
  · exact h.elim
  rename_i g' caps
  obtain ⟨rfl, h⟩ := h
  obtain ⟨cs, hcs, hg⟩ := hv
  obtain ⟨env0, hle, h⟩ := keepE_spec h
  have hE0 : EnvR sz ρ env0 { tmps := a.tmps, defers := [] } := ⟨hE.size, fun t v ht => by
    obtain ⟨u, hu, hl⟩ := hle.get t v ht
    obtain ⟨x, e, hx⟩ := hE.env t u hu
    have := hl.is_ hx
    rw [renS_nil] at this
    exact ⟨x, e, this⟩⟩
  refine wpIn_rangeFunc ?_
  intro fn hfn
  have hro : Fence.wide.round = none := rfl
  rw [hro]
  obtain ⟨W1, hW1⟩ : ∃ W1, (w.alloc (.deferred (some []))).alloc (.loop { state := .ready, pending := none, fn := fn, tmps := a.tmps, params := ps, assign := assign, body := body, defers := w.heap.size }) = W1 := ⟨_, rfl⟩
  have hsz1 : W1.heap.size = w.heap.size + 2 := by rw [← hW1]; simp
  have hL1 : W1.heap[w.heap.size + 1]? = some (.loop { state := .ready, pending := none, fn := fn, tmps := a.tmps, params := ps, assign := assign, body := body, defers := w.heap.size }) := by
    rw [← hW1]
    have := World.alloc_heap_new (w.alloc (.deferred (some []))) (.loop { state := .ready, pending := none, fn := fn, tmps := a.tmps, params := ps, assign := assign, body := body, defers := w.heap.size })
    rwa [World.size_alloc] at this
  have hK1 : W1.heap[w.heap.size]? = some (.deferred (some [])) := by
    rw [← hW1]; exact (Below.heap_alloc _ _ _ (by simp)).trans (World.alloc_heap_new w _)
  have hb1 : Below w.heap.size w W1 := by
    rw [← hW1]; exact (((Below.refl _ w).alloc (Nat.le_refl _) _).alloc (by simp) _)
  have hx1 : Ext ρ (upd ρ nx (.func (.yield (w.heap.size + 1)) #[] #[])) := ext_upd (hC.new nx (Nat.le_refl _))
  have hone : Svs (upd ρ nx (.func (.yield (w.heap.size + 1)) #[] #[])) [.one (.ref nx)] [.func (.yield (w.heap.size + 1)) #[] #[]] := ⟨_, [], rfl, ⟨upd_same _ _ _, rfl⟩, rfl⟩
  have hcs1 : CapsAre (upd ρ nx (.func (.yield (w.heap.size + 1)) #[] #[])) caps cs := hcs.ext hx1
  obtain ⟨args, h, hsv⟩ := capE_spec hone hcs1 h
  cases hlen : Nat.ble args.length gsz <;> rw [hlen] at h
  · exact h.elim
  have hC1 := hC.more (v := .func (.yield (w.heap.size + 1)) #[] #[]) (o := .lp ⟨sz, ps.toList, assign, body⟩ env0 .ready) hb1 ⟨w.heap.size + 1, fn, a.tmps, w.heap.size, upd_same _ _ _, by have := hC.le; omega, by simpa [Lst.state, Lst.pend] using hL1, hE0.ext hx1⟩
    (fun b hf => by simp only [foot, upd_same] at hf; injection hf with hf; omega)
  have h1 := h _ rfl
  obtain ⟨ρ2, obs2, n2, hx2, hC2, h2⟩ := mvsK_spec hC1 h1
  have hcall := fn_sound_pin (xs := #[.func (.yield (w.heap.size + 1)) #[] #[]] ++ cs.toArray) hT hm hf hb hs hlen h2 hC2 (by simpa using hsv.ext hx2)
  refine ⟨w.heap.size + 1, [{ target := .collected w.heap.size, args := #[] }], W1, { target := .fn (.func g') cs.toArray, args := #[.func (.yield (w.heap.size + 1)) #[] #[]] }, W1, g', #[.func (.yield (w.heap.size + 1)) #[] #[]] ++ cs.toArray, W1, ?_, ?_, fun _ _ => trivial, ?_, fun q => (by cases q), ?_⟩
  · rw [← hW1]; exact run_enterLoop_outer _ _ _ _ _
  · simp only [resolve, hg]
    simp [go_sem]
  · simp [invoke, go_sem, run_enter hB]
  refine callsIn_wide.2 (hcall.mono ?_)
  rintro e w' ⟨ρ', v, obs', nx', x, hR, rfl, _, hC', hb', hx3, ho'⟩
  have hx' : Ext (upd ρ nx (.func (.yield (w.heap.size + 1)) #[] #[])) ρ' := fun i y hi => by
    by_cases q : i < nx + 1
    · exact hx3 i y q (hx2 _ _ hi)
    · rw [upd_ne _ (by omega), hC.new i (by omega)] at hi; cases hi
  obtain ⟨L2, e2, st, hol, hR⟩ := lpK_spec hR
  have hl2 : ρ' nx = some (.func (.yield (w.heap.size + 1)) #[] #[]) := hx' _ _ (upd_same _ _ _)
  obtain ⟨fn2, tmps2, D2, hBl, hh2, _⟩ := hC'.lpset hol hl2
  have hnb : st.state ≠ .busy := by
    intro q
    cases st with
    | ready => cases q
    | busy => exact hR
    | done c => cases q
  refine ⟨st.pend, _, run_endLoop hh2 hnb, ?_⟩
  have hf2 : foot ρ' nx (.lp L2 e2 st) = some (w.heap.size + 1) := by simp [foot, hl2]
  have hC4 := hC'.kill (w' := w'.putObj (w.heap.size + 1) (.loop { state := .exhausted, pending := st.pend, fn := fn2, tmps := tmps2, params := L2.ps.toArray, assign := L2.assign, body := L2.body, defers := D2 })) hol rfl hf2 World.putObj_size (fun k hk => World.putObj_heap_other hk)
  have hB1 : B ≤ w.heap.size := hC.le
  have hW4 : Wy B s ρ' ({ target := .collected w.heap.size, args := #[] } :: a.defers) (w'.putObj (w.heap.size + 1) (.loop { state := .exhausted, pending := st.pend, fn := fn2, tmps := tmps2, params := L2.ps.toArray, assign := L2.assign, body := L2.body, defers := D2 })) := by
    have o1 : Oth W1 (w'.putObj (w.heap.size + 1) (.loop { state := .exhausted, pending := st.pend, fn := fn2, tmps := tmps2, params := L2.ps.toArray, assign := L2.assign, body := L2.body, defers := D2 })) := ho'.trans (put_oth hh2 _)
    have o2 := (oth_of hb1).trans o1
    refine ⟨((hW.b.trans (hb1.mono hB1)).trans hb').trans (put_below (by omega) _), hW.o.trans o2, fun i y hi hy => hx' _ _ (hx1 _ _ (hW.e i y hi hy)), ?_⟩
    obtain ⟨Ds, hd, hn, hD⟩ := hW.m
    refine ⟨w.heap.size :: Ds, by rw [hd]; rfl, List.nodup_cons.2 ⟨fun q => ?_, hn⟩, fun D q => ?_⟩
    · have := (Array.getElem?_eq_some_iff.1 (hD _ q).2.2).1; omega
    · rcases List.mem_cons.1 q with rfl | q
      · exact ⟨hB1, hW.b.size, o1 _ _ hK1⟩
      · exact ⟨(hD _ q).1, (hD _ q).2.1, o2 _ _ (hD _ q).2.2⟩
  have hE4 : EnvR sz ρ' env { a with defers := [{ target := .collected w.heap.size, args := #[] }] ++ a.defers } := ⟨hE.size, ((hE.ext hx1).ext hx').env⟩
  split at hR
  · exact ⟨ρ', env, _, nx', hR, hE4, hC4, hW4⟩
  · exact wpIn_exit ⟨ρ', env, _, nx', hR, hE4, hC4, hW4⟩
  · exact wpIn_ret ⟨ρ', env, _, nx', hR, hE4, hC4, hW4⟩
  · exact hR.elim

end Go.Proofs.Ytdeekpcfmgfmcaa.V

/- What the functions on calendars answer. -/
namespace Go.Proofs.Ytdeekpcfmgfmcaa
open Go Go.RowKit V
set_option maxRecDepth 100000
set_option linter.unusedVariables false
theorem _root_.Go.Proofs.Ytdeekpcfmgfmcaa.V.NBit.one {x : Int} {K : Int → Prop} (h0 : 0 ≤ x) (h1 : x ≤ 9223372036854775807) (hK : ∀ z, z = x % 2 → K z) : NBit .and .i64 x 1 K := by
  refine ⟨fun z hz => hK z ?_⟩
  have := hz default default
  rw [intBits_and, Sem.run_pure] at this
  injection this with this _
  injection this with _ this
  rw [← this]
  unfold bits
  simp only [BitVec.toNat_and, BitVec.toNat_ofInt, show IntKind.i64.bits = 64 from rfl]
  have e1 : ((1 : Int) % ((2 ^ 64 : Nat) : Int)).toNat = 1 := by decide
  have e2 : (x % ((2 ^ 64 : Nat) : Int)).toNat = x.toNat := by rw [Int.emod_eq_of_lt h0 (by simp; omega)]
  rw [e1, e2, Nat.and_one_is_mod]
  rw [IntWalk.i64_in _ ⟨by omega, by omega⟩]; omega
theorem _root_.Go.Proofs.Ytdeekpcfmgfmcaa.V.NShr.u64 {x y : Int} {K : Int → Prop} (n : Nat) (hy : y = n) (hn : n ≤ 64) (h1 : 0 ≤ x) (hK : ∀ z, z = x / 2 ^ n → 0 ≤ z → z ≤ x → K z) : NShr .u64 x y K := by
  subst hy
  have p : (0 : Int) ≤ 2 ^ n := Int.le_of_lt (Int.pow_pos (by omega))
  refine ⟨by omega, ?_⟩
  rw [Int.toNat_natCast, show IntKind.u64.bits = 64 from rfl, Nat.min_eq_left hn, Int.fdiv_eq_ediv_of_nonneg _ p]
  exact hK _ rfl (Int.ediv_nonneg h1 p) (Int.ediv_le_self _ h1)
theorem v_cisnan (x : Int) : V.Fn Try.prog 128 [] [.one (.val (.int .i64 x))] (.bool false) := by
  refine V.Fn.mk_ V.Tok V.mixed Try.func128 rfl Try.ntmps128 (by kernel_rfl) rfl rfl ?_
  repeat' ((conv => whnf); first | refine V.NCond.mk ?_ | refine V.NIf.not_ ?_ | refine V.NIf.dec_ ?_ | refine V.a4 ?_ | refine V.a5 ?_ | refine V.NIf.mk (fun _ => ?_) (fun _ => ?_) | refine V.a7 ?_ | refine V.a8 ?_ | refine V.a9 ?_ | refine V.NBoth.mk ?_ ?_ | refine V.b1 ?_ | refine V.b2 ?_ | refine V.NTF.dec ?_ | refine V.b3 ?_ | refine V.b4 ?_ | (refine V.NDraw.any (by kernel_rfl) ?_) | fail)
  exact ⟨_, rfl, by simp⟩
theorem v_sisnan (x : Int) : V.Fn Try.prog 131 [] [.one (.val (.int .i64 x))] (.bool false) := by
  refine V.Fn.mk_ V.Tok V.mixed Try.func131 rfl Try.ntmps131 (by kernel_rfl) rfl rfl ?_
  repeat' ((conv => whnf); first | refine V.NCond.mk ?_ | refine V.NIf.not_ ?_ | refine V.NIf.dec_ ?_ | refine V.a4 ?_ | refine V.a5 ?_ | refine V.NIf.mk (fun _ => ?_) (fun _ => ?_) | refine V.a7 ?_ | refine V.a8 ?_ | refine V.a9 ?_ | refine V.NBoth.mk ?_ ?_ | refine V.b1 ?_ | refine V.b2 ?_ | refine V.NTF.dec ?_ | refine V.b3 ?_ | refine V.b4 ?_ | (refine V.NDraw.any (by kernel_rfl) ?_) | fail)
  exact ⟨_, rfl, by simp⟩
theorem v_cless (x y : Int) : V.Fn Try.prog 130 [] [.one (.val (.int .i64 x)), .one (.val (.int .i64 y))] (.bool (decide (x < y))) := by
  refine V.Fn.mk_ V.Tok V.mixed Try.func130 rfl Try.ntmps130 (by kernel_rfl) rfl rfl ?_
  repeat' ((conv => whnf); first | refine V.NCond.mk ?_ | refine V.NIf.not_ ?_ | refine V.NIf.dec_ ?_ | refine V.a4 ?_ | refine V.a5 ?_ | refine V.NIf.mk (fun _ => ?_) (fun _ => ?_) | refine V.a7 ?_ | refine V.a8 ?_ | refine V.a9 ?_ | refine V.NBoth.mk ?_ ?_ | refine V.b1 ?_ | refine V.b2 ?_ | refine V.NTF.dec ?_ | refine V.b3 ?_ | refine V.b4 ?_ | (first | refine V.Fn.k0 (v_cisnan _) rfl ?_ | refine V.Fn.q0 (v_cisnan _) rfl ?_ | refine V.Fn.a0 (v_cisnan _) rfl ?_) | (refine V.NDraw.any (by kernel_rfl) ?_) | fail)
  all_goals (conv => whnf)
  all_goals (first | exact ⟨_, rfl, iff_of_true (by omega) rfl⟩ | (exfalso; omega) | exact ⟨_, rfl, by simp; omega⟩ | exact ⟨_, rfl, by simp⟩)
theorem v_bsearch (l : List Int) (x : Int) (hn : l.length ≤ 1000) (hs : l.Pairwise (· < ·)) : V.Fn Try.prog 124 [.arr 1 l.length (ga e1 l)] [.one (.ref 0), .one (.val (.int .i64 x))] (.tuple #[.int .i64 (Ca.lb l x), .bool (decide (x ∈ l))]) := by
  refine V.Fn.mk_ V.Tok V.mixed Try.func124 rfl Try.ntmps124 (by kernel_rfl) rfl rfl ?_
  repeat' ((conv => whnf); first | refine V.NCond.mk ?_ | refine V.NIf.not_ ?_ | refine V.NIf.dec_ ?_ | refine V.a4 ?_ | refine V.a5 ?_ | refine V.NIf.mk (fun _ => ?_) (fun _ => ?_) | refine V.a7 ?_ | refine V.a8 ?_ | refine V.a9 ?_ | refine V.NBoth.mk ?_ ?_ | refine V.b1 ?_ | refine V.b2 ?_ | refine V.NTF.dec ?_ | refine V.b3 ?_ | refine V.b4 ?_ | (refine V.NDraw.any (by kernel_rfl) ?_) | fail)
  refine V.NLoop.auto (fun (s : Nat × Nat) => [(7, .one (.val (.int .i64 s.1))), (8, .one (.val (.int .i64 s.2)))]) (fun (s : Nat × Nat) => []) [] [] (fun (s : Nat × Nat) => s.2 - s.1) (fun (s : Nat × Nat) => s.1 ≤ s.2 ∧ s.2 ≤ l.length ∧ (∀ k, k < s.1 → l.getD k default < x) ∧ (∀ k, s.2 ≤ k → k < l.length → ¬ l.getD k default < x)) (0, l.length) ⟨Nat.zero_le _, Nat.le_refl _, fun k h => absurd h (Nat.not_lt_zero _), fun k h1 h2 => absurd h2 (by dsimp only at h1; omega)⟩ V.S_ V.S_ (fun _ => ⟨rfl, rfl⟩) ?_; (conv => whnf); refine ⟨⟨rfl, rfl⟩, ?_⟩
  rintro s ⟨h1, h2, h3, h4⟩
  generalize s.1 = i at *
  generalize s.2 = j at *
  repeat' ((conv => whnf); first | refine V.NCond.mk ?_ | refine V.NIf.not_ ?_ | refine V.NIf.dec_ ?_ | refine V.a4 ?_ | refine V.a5 ?_ | refine V.NIf.mk (fun _ => ?_) (fun _ => ?_) | refine V.a7 ?_ | refine V.a8 ?_ | refine V.a9 ?_ | refine V.NBoth.mk ?_ ?_ | refine V.b1 ?_ | refine V.b2 ?_ | refine V.NTF.dec ?_ | refine V.b3 ?_ | refine V.b4 ?_ | (refine NShr.u64 1 rfl (by omega) (by omega) ?_; intro z hz hz0 hz1) | (refine NIdx.mk ⟨i, rfl, by omega, ?_⟩) | (refine NIdx.mk ⟨(i + j) / 2, by omega, by omega, ?_⟩) | (first | refine V.Fn.k0 (v_cless _ _) rfl ?_ | refine V.Fn.q0 (v_cless _ _) rfl ?_ | refine V.Fn.a0 (v_cless _ _) rfl ?_) | (first | refine V.Fn.k0 (v_sisnan _) rfl ?_ | refine V.Fn.q0 (v_sisnan _) rfl ?_ | refine V.Fn.a0 (v_sisnan _) rfl ?_) | (refine V.NDraw.any (by kernel_rfl) ?_) | fail)
  all_goals (conv => whnf)
  · refine V.NBack.at_ ((i + j) / 2 + 1, j) [] ⟨by dsimp only; omega, h2, fun k hk => ?_, h4⟩ (by dsimp only; omega) V.S_ rfl V.S_ V.S_ V.S_
    by_cases e : k = (i + j) / 2
    · subst e; assumption
    · have := Ca.srt_lt hs (i := k) (j := (i + j) / 2) (by dsimp only at hk; omega) (by omega); omega
  · refine V.NBack.at_ (i, (i + j) / 2) [] ⟨by dsimp only; omega, by dsimp only; omega, h3, fun k h5 h6 => ?_⟩ (by dsimp only; omega) V.S_ rfl V.S_ V.S_ V.S_
    by_cases e : k = (i + j) / 2
    · subst e; assumption
    · have := Ca.srt_lt hs (i := (i + j) / 2) (j := k) (by dsimp only at h5; omega) h6; omega
  all_goals
    obtain rfl : i = j := by omega
    have e1 := Ca.lb_is h2 h3 h4
    have e2 := Ca.found_is h3 h4 hs
    rw [e1]
    first
      | exact ⟨rfl, congrArg Value.bool (decide_eq_true (e2.2 ⟨by omega, by assumption⟩)).symm, trivial⟩
      | exact ⟨rfl, congrArg Value.bool (decide_eq_false (fun q => by have := e2.1 q; omega)).symm, trivial⟩
theorem v_caopen (c : Cl) (n : Int) (h : Ca.Ok c) (hn : Ca.Day n) : V.Fn Try.prog 114 [.arr 1 c.hs.length (ga e1 c.hs)] [.agg [.val (.int .i64 c.we), .ref 0], .one (.val (.int .i64 n))] (.bool (decide (Ca.op c n = 1))) := by
  obtain ⟨h1, h2, h3, h4⟩ := h
  have w01 := Ca.wd_01 c n
  have o1 : n ∈ c.hs → Ca.op c n = 0 := fun q => if_pos q
  have o2 : ¬ n ∈ c.hs → Ca.op c n = Ca.wd c n := fun q => if_neg q
  have ew : Ca.wd c n = 1 - c.we / 2 ^ (n % 7).toNat % 2 := rfl
  unfold Ca.Day at hn
  refine V.Fn.mk_ V.Tok V.mixed Try.func114 rfl Try.ntmps114 (by kernel_rfl) rfl rfl ?_
  repeat' ((conv => whnf); first | refine V.NCond.mk ?_ | refine V.NIf.not_ ?_ | refine V.NIf.dec_ ?_ | refine V.a4 ?_ | refine V.a5 ?_ | refine V.NIf.mk (fun _ => ?_) (fun _ => ?_) | refine V.a7 ?_ | refine V.a8 ?_ | refine V.a9 ?_ | refine V.NBoth.mk ?_ ?_ | refine V.b1 ?_ | refine V.b2 ?_ | refine V.NTF.dec ?_ | refine V.b3 ?_ | refine V.b4 ?_ | ((first | refine V.Fn.k (v_bsearch c.hs n (by omega) h4) [0] rfl ?_ ?_ | refine V.Fn.q (v_bsearch c.hs n (by omega) h4) [0] rfl ?_ ?_ | refine V.Fn.a (v_bsearch c.hs n (by omega) h4) [0] rfl ?_ ?_); · exact V.D_) | (refine NRem.pos (by omega) (by omega) ?_; intro r hr hr0 hr1) | (refine NShr.i64 (n % 7).toNat (by omega) (by omega) (by omega) ?_; intro s hs hs0 hs1) | (refine NBit.one (by omega) (by omega) ?_; intro b hb) | (refine V.NDraw.any (by kernel_rfl) ?_) | fail)
  all_goals (conv => whnf)
  · exact congrArg Value.bool (decide_eq_false (by rw [o1 (by assumption)]; decide)).symm
  · have e := o2 (by assumption)
    exact ⟨_, rfl, by rw [decide_eq_true_eq, e, ew, ← hs]; omega⟩
theorem v_caCheck (c : Cl) (hn : c.hs.length ≤ 9223372036854775807) : V.Fn Try.prog 31 [.arr 1 c.hs.length (ga e1 c.hs)] [.agg [.val (.int .i64 c.we), .ref 0]] (.int .i64 (Ca.chk c)) := by
  have c1 := @Ca.chk_1 c
  have c2 := @Ca.chk_2 c
  have c3 := @Ca.chk_3 c
  refine V.Fn.mk_ V.Tok V.mixed Try.func31 rfl Try.ntmps31 (by kernel_rfl) rfl rfl ?_
  repeat' ((conv => whnf); first | refine V.NCond.mk ?_ | refine V.NIf.not_ ?_ | refine V.NIf.dec_ ?_ | refine V.a4 ?_ | refine V.a5 ?_ | refine V.NIf.mk (fun _ => ?_) (fun _ => ?_) | refine V.a7 ?_ | refine V.a8 ?_ | refine V.a9 ?_ | refine V.NBoth.mk ?_ ?_ | refine V.b1 ?_ | refine V.b2 ?_ | refine V.NTF.dec ?_ | refine V.b3 ?_ | refine V.b4 ?_ | (refine V.NDraw.any (by kernel_rfl) ?_) | fail)
  all_goals (conv => whnf)
  · exact V.fin1 (c1 (by omega))
  · exact V.fin1 (c1 (by omega))
  · exact V.fin1 (c2 (by omega) (by omega))
  have e := c3 (by omega) (by omega)
  refine V.NLoop.auto (fun (k : Nat) => [(23, .one (.val (.int .i64 k))), (3, .one (.val (.int .i64 (if k = 0 then -1 else c.hs.getD (k - 1) default))))]) (fun (k : Nat) => []) [] [] (fun (k : Nat) => c.hs.length - k) (fun (k : Nat) => k ≤ c.hs.length ∧ ∀ j, j < k → Ca.eAt c.hs j = 0) 0 ⟨Nat.zero_le _, fun j h => absurd h (Nat.not_lt_zero _)⟩ V.S_ V.S_ (fun _ => ⟨rfl, rfl⟩) ?_; (conv => whnf); refine ⟨⟨rfl, rfl⟩, ?_⟩
  rintro k ⟨hk, hJ⟩
  obtain ⟨a1, a2, a3, a4⟩ := Ca.eAt_cases (hs := c.hs) (k := k) rfl rfl
  have d := Ca.dchk (c.hs.getD k default)
  unfold Ca.Day at d a1 a2 a3 a4
  have ge : ∀ v, v ≠ 0 → k < c.hs.length → Ca.eAt c.hs k = v → Ca.chk c = v := fun v h1 h2 h3 => e.trans ((Ca.fe_get h2 hJ (by omega)).trans h3)
  repeat' ((conv => whnf); first | refine V.NCond.mk ?_ | refine V.NIf.not_ ?_ | refine V.NIf.dec_ ?_ | refine V.a4 ?_ | refine V.a5 ?_ | refine V.NIf.mk (fun _ => ?_) (fun _ => ?_) | refine V.a7 ?_ | refine V.a8 ?_ | refine V.a9 ?_ | refine V.NBoth.mk ?_ ?_ | refine V.b1 ?_ | refine V.b2 ?_ | refine V.NTF.dec ?_ | refine V.b3 ?_ | refine V.b4 ?_ | (refine NIdx.mk ⟨k, rfl, by omega, ?_⟩) | (first | refine V.Fn.k0 (v_dcheck _) rfl ?_ | refine V.Fn.q0 (v_dcheck _) rfl ?_ | refine V.Fn.a0 (v_dcheck _) rfl ?_) | (refine V.NDraw.any (by kernel_rfl) ?_) | fail)
  all_goals (conv => whnf)
  · exact V.fin1 (ge 6 (by decide) (by omega) (a2 (by omega) (by assumption)))
  · exact V.fin1 (ge 4 (by decide) (by omega) (a3 (by omega) (by assumption) (by assumption)))
  · refine V.NBack.at_ (k + 1) [] ⟨by omega, fun j hj => ?_⟩ (by omega) ⟨V.S_, congrArg (fun z => V.SV.one (V.At.val (Value.int .i64 z))) (if_neg (by omega)).symm, trivial⟩ rfl V.S_ V.S_ V.S_
    by_cases q : j = k
    · subst q; exact a4 (by omega) (by assumption) (by assumption)
    · exact hJ j (by omega)
  · exact V.fin1 (ge 3 (by decide) (by omega) (a1 (by omega)))
  · obtain rfl : k = c.hs.length := by omega
    exact V.fin1 (e.trans (Ca.fe_end hJ))
theorem v_caChecks (c : Cl) (ds : List Int) (hn : c.hs.length ≤ 9223372036854775807) (hd : ds.length ≤ 1000) : V.Fn Try.prog 113 [.arr 1 c.hs.length (ga e1 c.hs), .arr 1 ds.length (ga e1 ds)] [.agg [.val (.int .i64 c.we), .ref 0], .one (.ref 1)] (.int .i64 (Ca.chks c ds)) := by
  have c1 := @Ca.chks_1 c ds
  have c2 := @Ca.chks_2 c ds
  refine V.Fn.mk_ V.Tok V.mixed Try.func113 rfl Try.ntmps113 (by kernel_rfl) rfl rfl ?_
  repeat' ((conv => whnf); first | refine V.NCond.mk ?_ | refine V.NIf.not_ ?_ | refine V.NIf.dec_ ?_ | refine V.a4 ?_ | refine V.a5 ?_ | refine V.NIf.mk (fun _ => ?_) (fun _ => ?_) | refine V.a7 ?_ | refine V.a8 ?_ | refine V.a9 ?_ | refine V.NBoth.mk ?_ ?_ | refine V.b1 ?_ | refine V.b2 ?_ | refine V.NTF.dec ?_ | refine V.b3 ?_ | refine V.b4 ?_ | ((first | refine V.Fn.k (v_caCheck c hn) [0] rfl ?_ ?_ | refine V.Fn.q (v_caCheck c hn) [0] rfl ?_ ?_ | refine V.Fn.a (v_caCheck c hn) [0] rfl ?_ ?_); · exact V.D_) | (refine V.NDraw.any (by kernel_rfl) ?_) | fail)
  all_goals (conv => whnf)
  rotate_left
  · exact V.fin1 (c1 (by assumption))
  have e := c2 (by assumption)
  refine V.NLoop.auto (fun (k : Nat) => [(16, .one (.val (.int .i64 k)))]) (fun (k : Nat) => []) [] [] (fun (k : Nat) => ds.length - k) (fun (k : Nat) => k ≤ ds.length ∧ ∀ d ∈ ds.take k, D.chk d = 0) 0 ⟨Nat.zero_le _, by simp⟩ V.S_ V.S_ (fun _ => ⟨rfl, rfl⟩) ?_; (conv => whnf); refine ⟨⟨rfl, rfl⟩, ?_⟩
  rintro k ⟨hk, hJ⟩
  repeat' ((conv => whnf); first | refine V.NCond.mk ?_ | refine V.NIf.not_ ?_ | refine V.NIf.dec_ ?_ | refine V.a4 ?_ | refine V.a5 ?_ | refine V.NIf.mk (fun _ => ?_) (fun _ => ?_) | refine V.a7 ?_ | refine V.a8 ?_ | refine V.a9 ?_ | refine V.NBoth.mk ?_ ?_ | refine V.b1 ?_ | refine V.b2 ?_ | refine V.NTF.dec ?_ | refine V.b3 ?_ | refine V.b4 ?_ | (refine NIdx.mk ⟨k, rfl, by omega, ?_⟩) | (first | refine V.Fn.k0 (v_dcheck _) rfl ?_ | refine V.Fn.q0 (v_dcheck _) rfl ?_ | refine V.Fn.a0 (v_dcheck _) rfl ?_) | (refine V.NDraw.any (by kernel_rfl) ?_) | fail)
  all_goals (conv => whnf)
  · exact V.NBack.at_ (k + 1) [] ⟨by omega, all_snoc (by omega) hJ (by assumption)⟩ (by omega) V.S_ rfl V.S_ V.S_ V.S_
  · exact V.fin1 (e.trans (fb_get (by omega) hJ (by assumption)))
  · exact V.fin1 (e.trans (fb_end (by omega) hJ))
theorem v_caIs (c : Cl) (n : Int) (hn : c.hs.length ≤ 9223372036854775807) : V.Fn Try.prog 78 [.arr 1 c.hs.length (ga e1 c.hs)] [.agg [.val (.int .i64 c.we), .ref 0], .one (.val (.int .i64 n))] (.tuple #[.bool (Ca.isV c n), .int .i64 (Ca.e1 c n)]) := by
  have vo := fun h : Ca.e1 c n = 0 => v_caopen c n (Ca.e1_ok h).1 (Ca.e1_ok h).2.1
  have ck := v_caChecks c [n] hn (by simp)
  rw [show Ca.chks c [n] = Ca.e1 c n from rfl] at ck
  refine V.Fn.mk_ V.Tok V.mixed Try.func78 rfl Try.ntmps78 (by kernel_rfl) rfl rfl ?_
  repeat' ((conv => whnf); first | refine V.NCond.mk ?_ | refine V.NIf.not_ ?_ | refine V.NIf.dec_ ?_ | refine V.a4 ?_ | refine V.a5 ?_ | refine V.NIf.mk (fun _ => ?_) (fun _ => ?_) | refine V.a7 ?_ | refine V.a8 ?_ | refine V.a9 ?_ | refine V.NBoth.mk ?_ ?_ | refine V.b1 ?_ | refine V.b2 ?_ | refine V.NTF.dec ?_ | refine V.b3 ?_ | refine V.b4 ?_ | ((first | refine V.Fn.k (ck) [0, 2] rfl ?_ ?_ | refine V.Fn.q (ck) [0, 2] rfl ?_ ?_ | refine V.Fn.a (ck) [0, 2] rfl ?_ ?_); · exact V.D_) | ((first | refine V.Fn.k (vo (by assumption)) [0] rfl ?_ ?_ | refine V.Fn.q (vo (by assumption)) [0] rfl ?_ ?_ | refine V.Fn.a (vo (by assumption)) [0] rfl ?_ ?_); · exact V.D_) | (refine V.NDraw.any (by kernel_rfl) ?_) | fail)
  all_goals (conv => whnf)
  · exact ⟨congrArg Value.bool (decide_eq_decide.2 ⟨fun q => ⟨by assumption, q⟩, fun q => q.2⟩), V.fin1 (by assumption), trivial⟩
  · exact ⟨congrArg Value.bool (decide_eq_false fun q => absurd q.1 (by assumption)).symm, rfl, trivial⟩
set_option maxHeartbeats 4000000 in
theorem v_nthU (c : Cl) (n many : Int) (h : Ca.Ok c) (hn : 0 ≤ n ∧ n ≤ 3652059) (hm : 1 ≤ many ∧ many ≤ 1000) : V.Fn Try.prog 125 [.arr 1 c.hs.length (ga e1 c.hs)] [.agg [.val (.int .i64 c.we), .ref 0], .one (.val (.int .i64 n)), .one (.val (.int .i64 1)), .one (.val (.int .i64 many))] (.int .i64 (Ca.stU c (n - 1) many)) := by
  refine V.Fn.mk_ V.Tok V.mixed Try.func125 rfl Try.ntmps125 (by kernel_rfl) rfl rfl ?_
  repeat' ((conv => whnf); first | refine V.NCond.mk ?_ | refine V.NIf.not_ ?_ | refine V.NIf.dec_ ?_ | refine V.a4 ?_ | refine V.a5 ?_ | refine V.NIf.mk (fun _ => ?_) (fun _ => ?_) | refine V.a7 ?_ | refine V.a8 ?_ | refine V.a9 ?_ | refine V.NBoth.mk ?_ ?_ | refine V.b1 ?_ | refine V.b2 ?_ | refine V.NTF.dec ?_ | refine V.b3 ?_ | refine V.b4 ?_ | (refine V.NCall.inl (f := 132) V.Tok V.mixed Try.func132 rfl Try.ntmps132 (by kernel_rfl) rfl ?_) | (refine V.NRange.inl V.Tok V.mixed Try.func136 rfl Try.ntmps136 (by kernel_rfl) [7, 8] [] ?_; (conv => whnf); refine V.NIs.mk rfl ?_; (conv => whnf); intro L hL) | (refine V.NDraw.any (by kernel_rfl) ?_) | fail)
  all_goals (conv => whnf)
  refine V.NLoop.auto (fun (i : Int) => []) (fun (i : Int) => [(5, .box 3 [.val (.int .i64 i)]), (2, .box 3 [.val (.int .i64 (many - Ca.cnt c (n - 1) (i - 1)))])]) [] [] (fun (i : Int) => (3652059 - i).toNat) (fun (i : Int) => n ≤ i ∧ i ≤ 3652059 ∧ Ca.cnt c (n - 1) (i - 1) < many) n ⟨Int.le_refl _, hn.2, by rw [Ca.cnt_none (Int.le_refl _)]; omega⟩ V.S_ (by (conv => whnf); exact ⟨rfl, congrArg (fun z => V.Ob.box _ [V.At.val (Value.int .i64 z)]) (by rw [Ca.cnt_none (Int.le_refl _)]; omega), trivial⟩) (fun _ => ⟨rfl, rfl⟩) ?_; (conv => whnf); refine ⟨⟨rfl, rfl⟩, ?_⟩
  rintro i ⟨h1, h2, h3⟩
  have cs := Ca.cnt_last (c := c) (a := n - 1) (b := i) (by omega)
  have c0 := (Ca.cnt_bd c (n - 1) (i - 1)).1
  have vo := fun q => v_caopen c i h q
  repeat' ((conv => whnf); first | refine V.NCond.mk ?_ | refine V.NIf.not_ ?_ | refine V.NIf.dec_ ?_ | refine V.a4 ?_ | refine V.a5 ?_ | refine V.NIf.mk (fun _ => ?_) (fun _ => ?_) | refine V.a7 ?_ | refine V.a8 ?_ | refine V.a9 ?_ | refine V.NBoth.mk ?_ ?_ | refine V.b1 ?_ | refine V.b2 ?_ | refine V.NTF.dec ?_ | refine V.b3 ?_ | refine V.b4 ?_ | ((first | refine V.Fn.k (vo ⟨by omega, by omega⟩) [0] rfl ?_ ?_ | refine V.Fn.q (vo ⟨by omega, by omega⟩) [0] rfl ?_ ?_ | refine V.Fn.a (vo ⟨by omega, by omega⟩) [0] rfl ?_ ?_); · exact V.D_) | (refine V.NYield.mk_ V.Tok V.mixed hL rfl rfl ?_) | (refine V.NDraw.any (by kernel_rfl) ?_) | fail)
  all_goals (conv => whnf)
  · exact V.fin1 (Ca.stU_is ⟨by omega, by omega, by assumption, by omega⟩)
  · refine V.NBack.at_ (i + 1) [] ⟨by omega, by omega, by rw [show i + 1 - 1 = i by omega]; omega⟩ (by omega) V.S_ rfl ⟨rfl, congrArg (fun z => V.Ob.box _ [V.At.val (Value.int .i64 z)]) (by rw [show i + 1 - 1 = i by omega]; omega), trivial⟩ V.S_ V.S_
  · have := Ca.op_01 c i
    refine V.NBack.at_ (i + 1) [] ⟨by omega, by omega, by rw [show i + 1 - 1 = i by omega]; omega⟩ (by omega) V.S_ rfl ⟨rfl, congrArg (fun z => V.Ob.box _ [V.At.val (Value.int .i64 z)]) (by rw [show i + 1 - 1 = i by omega]; omega), trivial⟩ V.S_ V.S_
  · have e : i - 1 = 3652058 := by omega
    rw [e] at h3
    exact V.fin1 (Ca.stU_no h3)
set_option maxHeartbeats 4000000 in
theorem v_nthD (c : Cl) (n many : Int) (h : Ca.Ok c) (hn : -1 ≤ n ∧ n ≤ 3652058) (hm : 1 ≤ many ∧ many ≤ 1000) : V.Fn Try.prog 125 [.arr 1 c.hs.length (ga e1 c.hs)] [.agg [.val (.int .i64 c.we), .ref 0], .one (.val (.int .i64 n)), .one (.val (.int .i64 (-1))), .one (.val (.int .i64 many))] (.int .i64 (Ca.stD c (n + 1) many)) := by
  refine V.Fn.mk_ V.Tok V.mixed Try.func125 rfl Try.ntmps125 (by kernel_rfl) rfl rfl ?_
  repeat' ((conv => whnf); first | refine V.NCond.mk ?_ | refine V.NIf.not_ ?_ | refine V.NIf.dec_ ?_ | refine V.a4 ?_ | refine V.a5 ?_ | refine V.NIf.mk (fun _ => ?_) (fun _ => ?_) | refine V.a7 ?_ | refine V.a8 ?_ | refine V.a9 ?_ | refine V.NBoth.mk ?_ ?_ | refine V.b1 ?_ | refine V.b2 ?_ | refine V.NTF.dec ?_ | refine V.b3 ?_ | refine V.b4 ?_ | (refine V.NCall.inl (f := 132) V.Tok V.mixed Try.func132 rfl Try.ntmps132 (by kernel_rfl) rfl ?_) | (refine V.NRange.inl V.Tok V.mixed Try.func136 rfl Try.ntmps136 (by kernel_rfl) [7, 8] [] ?_; (conv => whnf); refine V.NIs.mk rfl ?_; (conv => whnf); intro L hL) | (refine V.NDraw.any (by kernel_rfl) ?_) | fail)
  all_goals (conv => whnf)
  refine V.NLoop.auto (fun (i : Int) => []) (fun (i : Int) => [(5, .box 3 [.val (.int .i64 i)]), (2, .box 3 [.val (.int .i64 (many - Ca.cnt c i n))])]) [] [] (fun (i : Int) => (i + 1).toNat) (fun (i : Int) => i ≤ n ∧ -1 ≤ i ∧ Ca.cnt c i n < many) n ⟨Int.le_refl _, hn.1, by rw [Ca.cnt_none (Int.le_refl _)]; omega⟩ V.S_ (by (conv => whnf); exact ⟨rfl, congrArg (fun z => V.Ob.box _ [V.At.val (Value.int .i64 z)]) (by rw [Ca.cnt_none (Int.le_refl _)]; omega), trivial⟩) (fun _ => ⟨rfl, rfl⟩) ?_; (conv => whnf); refine ⟨⟨rfl, rfl⟩, ?_⟩
  rintro i ⟨h1, h2, h3⟩
  have cs := Ca.cnt_first (c := c) (a := i - 1) (b := n) (by omega)
  rw [show i - 1 + 1 = i by omega] at cs
  have c0 := (Ca.cnt_bd c i n).1
  have vo := fun q => v_caopen c i h q
  repeat' ((conv => whnf); first | refine V.NCond.mk ?_ | refine V.NIf.not_ ?_ | refine V.NIf.dec_ ?_ | refine V.a4 ?_ | refine V.a5 ?_ | refine V.NIf.mk (fun _ => ?_) (fun _ => ?_) | refine V.a7 ?_ | refine V.a8 ?_ | refine V.a9 ?_ | refine V.NBoth.mk ?_ ?_ | refine V.b1 ?_ | refine V.b2 ?_ | refine V.NTF.dec ?_ | refine V.b3 ?_ | refine V.b4 ?_ | ((first | refine V.Fn.k (vo ⟨by omega, by omega⟩) [0] rfl ?_ ?_ | refine V.Fn.q (vo ⟨by omega, by omega⟩) [0] rfl ?_ ?_ | refine V.Fn.a (vo ⟨by omega, by omega⟩) [0] rfl ?_ ?_); · exact V.D_) | (refine V.NYield.mk_ V.Tok V.mixed hL rfl rfl ?_) | (refine V.NDraw.any (by kernel_rfl) ?_) | fail)
  all_goals (conv => whnf)
  · exact V.fin1 (Ca.stD_is ⟨by omega, by omega, by assumption, by rw [show n + 1 - 1 = n by omega]; omega⟩)
  · exact V.NBack.at_ (i - 1) [] ⟨by omega, by omega, by omega⟩ (by omega) V.S_ rfl ⟨rfl, congrArg (fun z => V.Ob.box _ [V.At.val (Value.int .i64 z)]) (by omega), trivial⟩ V.S_ V.S_
  · have := Ca.op_01 c i
    exact V.NBack.at_ (i - 1) [] ⟨by omega, by omega, by omega⟩ (by omega) V.S_ rfl ⟨rfl, congrArg (fun z => V.Ob.box _ [V.At.val (Value.int .i64 z)]) (by omega), trivial⟩ V.S_ V.S_
  · have e : i = -1 := by omega
    rw [e] at h3
    exact V.fin1 (Ca.stD_no (by rw [show n + 1 - 1 = n by omega]; exact h3))
theorem v_caRaw (c : Cl) (n many : Int) (h : Ca.Ok c) (hn : Ca.Day n) (hm : -1000 ≤ many ∧ many ≤ 1000) : V.Fn Try.prog 116 [.arr 1 c.hs.length (ga e1 c.hs)] [.agg [.val (.int .i64 c.we), .ref 0], .one (.val (.int .i64 n)), .one (.val (.int .i64 many))] (.int .i64 (Ca.stp c n many)) := by
  unfold Ca.Day at hn
  have p := @Ca.stp_p c n many
  have m := @Ca.stp_n c n many
  have u := fun q r => v_nthU c (n + 1) many h q r
  have d := fun q r => v_nthD c (n - 1) (0 - many) h q r
  rw [show n + 1 - 1 = n by omega] at u
  rw [show n - 1 + 1 = n by omega] at d
  refine V.Fn.mk_ V.Tok V.mixed Try.func116 rfl Try.ntmps116 (by kernel_rfl) rfl rfl ?_
  repeat' ((conv => whnf); first | refine V.NCond.mk ?_ | refine V.NIf.not_ ?_ | refine V.NIf.dec_ ?_ | refine V.a4 ?_ | refine V.a5 ?_ | refine V.NIf.mk (fun _ => ?_) (fun _ => ?_) | refine V.a7 ?_ | refine V.a8 ?_ | refine V.a9 ?_ | refine V.NBoth.mk ?_ ?_ | refine V.b1 ?_ | refine V.b2 ?_ | refine V.NTF.dec ?_ | refine V.b3 ?_ | refine V.b4 ?_ | ((first | refine V.Fn.k (u (by omega) (by omega)) [0] rfl ?_ ?_ | refine V.Fn.q (u (by omega) (by omega)) [0] rfl ?_ ?_ | refine V.Fn.a (u (by omega) (by omega)) [0] rfl ?_ ?_); · exact V.D_) | ((first | refine V.Fn.k (d (by omega) (by omega)) [0] rfl ?_ ?_ | refine V.Fn.q (d (by omega) (by omega)) [0] rfl ?_ ?_ | refine V.Fn.a (d (by omega) (by omega)) [0] rfl ?_ ?_); · exact V.D_) | (refine V.NDraw.any (by kernel_rfl) ?_) | fail)
  all_goals (conv => whnf)
  · exact V.fin1 (p (by assumption))
  · exact V.fin1 ((m (by assumption)).trans (by rw [Int.zero_sub]))
  · obtain rfl : many = 0 := by omega
    exact V.fin1 Ca.stp_0
end Go.Proofs.Ytdeekpcfmgfmcaa

/- The walk of the check of a day. -/
namespace Go.Proofs.Ytdeekpcfmgfmcaa
open Go.RowKit
end Go.Proofs.Ytdeekpcfmgfmcaa

/- The walks of the functions of the package 'date': what each computes. -/
namespace Go.Proofs.Ytdeekpcfmgfmcaa
open Go.RowKit
set_option maxRecDepth 100000

end Go.Proofs.Ytdeekpcfmgfmcaa

/- The walks of the document's own functions on dates, and of the law's own helper. -/
namespace Go.Proofs.Ytdeekpcfmgfmcaa
open Go.RowKit
set_option maxRecDepth 100000

end Go.Proofs.Ytdeekpcfmgfmcaa

/- The walk of the document's function on months, and of the law's own helper. -/
namespace Go.Proofs.Ytdeekpcfmgfmcaa
open Go.RowKit
set_option maxRecDepth 100000

end Go.Proofs.Ytdeekpcfmgfmcaa

/- The elder contracts of the functions on dates, as contracts for the walk by verification conditions. -/
namespace Go.Proofs.Ytdeekpcfmgfmcaa
open Go Go.RowKit V
set_option maxRecDepth 100000
set_option linter.unusedVariables false
namespace V
theorem Svs.vals_ {ρ : Rho} : ∀ {vs xs : List Value}, Svs ρ (vs.map fun v => SV.one (.val v)) xs → xs = vs
  | [], _, h => h
  | v :: l, _, ⟨x, r, e, hv, hr⟩ => by
    have : x = v := hv
    subst this
    rw [e, Svs.vals_ hr]
/-- an elder contract -/
theorem Fn.old {P : Program} {f : FuncId} {os : List Ob} {x : Value} (vs : List Value) (hb : hasBody P f = true) (h : ∀ w, (∀ (i : Nat) o, os[i]? = some o → ∃ ρ v, Ro ρ w v o) → Calls P f vs.toArray w fun e w' => e = .returned x ∧ w = w') : Fn P f os (vs.map fun v => SV.one (.val v)) x :=
  ⟨hb, fun w ρ xs ho hs => by
    rw [Svs.vals_ hs]
    refine (h w fun i o e => by obtain ⟨v, _, q⟩ := ho i o e; exact ⟨ρ, v, q⟩).mono ?_
    rintro e w' ⟨rfl, rfl⟩
    exact ⟨rfl, Below.refl _ _⟩⟩
end V
end Go.Proofs.Ytdeekpcfmgfmcaa

/- The document's own steps over business days; a day fitted; what holds in any case. -/
namespace Go.Proofs.Ytdeekpcfmgfmcaa
open Go Go.RowKit V
set_option maxRecDepth 100000
set_option linter.unusedVariables false
end Go.Proofs.Ytdeekpcfmgfmcaa

/- What the functions on ages answer. -/
namespace Go.Proofs.Ytdeekpcfmgfmcaa
open Go Go.RowKit V
set_option maxRecDepth 100000
set_option linter.unusedVariables false
theorem v_agwithin (n a b : Int) : V.Fn Try.prog 112 [] [.one (.val (.int .i64 n)), .one (.val (.int .i64 a)), .one (.val (.int .i64 b))] (.bool (decide (a ≤ n ∧ n ≤ b))) := by
  refine V.Fn.mk_ V.Tok V.mixed Try.func112 rfl Try.ntmps112 (by kernel_rfl) rfl rfl ?_
  repeat' ((conv => whnf); first | refine V.NCond.mk ?_ | refine V.NIf.not_ ?_ | refine V.NIf.dec_ ?_ | refine V.a4 ?_ | refine V.a5 ?_ | refine V.NIf.mk (fun _ => ?_) (fun _ => ?_) | refine V.a7 ?_ | refine V.a8 ?_ | refine V.a9 ?_ | refine V.NBoth.mk ?_ ?_ | refine V.b1 ?_ | refine V.b2 ?_ | refine V.NTF.dec ?_ | refine V.b3 ?_ | refine V.b4 ?_ | (refine V.NDraw.any (by kernel_rfl) ?_) | fail)
  · exact ⟨_, rfl, by simp_all⟩
  · exact congrArg Value.bool (by simp_all; omega)
theorem v_agCheck (t : Tm) : V.Fn Try.prog 77 [] [.agg [.val (.int .i64 t.ex), .val (.int .i64 t.bu), .val (.int .i64 t.de), .val (.int .i64 t.ra)]] (.int .i64 (Ag.tchk t)) := by
  have h1 : Ag.Wi t → Ag.tchk t = 0 := fun h => if_pos h
  have h2 : ¬ Ag.Wi t → Ag.tchk t = 3 := fun h => if_neg h
  have hw : Ag.Wi t ↔ ((0 ≤ t.ex ∧ t.ex ≤ 100) ∧ (0 ≤ t.bu ∧ t.bu ≤ 100) ∧ (0 ≤ t.de ∧ t.de ≤ 100) ∧ (0 ≤ t.ra ∧ t.ra ≤ 1000000)) := Iff.rfl
  refine V.Fn.mk_ V.Tok V.mixed Try.func77 rfl Try.ntmps77 (by kernel_rfl) rfl rfl ?_
  repeat' ((conv => whnf); first | refine V.NCond.mk ?_ | refine V.NIf.not_ ?_ | refine V.NIf.dec_ ?_ | refine V.a4 ?_ | refine V.a5 ?_ | refine V.NIf.mk (fun _ => ?_) (fun _ => ?_) | refine V.a7 ?_ | refine V.a8 ?_ | refine V.a9 ?_ | refine V.NBoth.mk ?_ ?_ | refine V.b1 ?_ | refine V.b2 ?_ | refine V.NTF.dec ?_ | refine V.b3 ?_ | refine V.b4 ?_ | (first | refine V.Fn.k0 (v_agwithin _ _ _) rfl ?_ | refine V.Fn.q0 (v_agwithin _ _ _) rfl ?_ | refine V.Fn.a0 (v_agwithin _ _ _) rfl ?_) | (refine V.NDraw.any (by kernel_rfl) ?_) | fail)
  all_goals (conv => whnf)
  all_goals first
    | exact V.fin1 (h1 (hw.2 (by omega)))
    | exact V.fin1 (h2 (fun q => by have := hw.1 q; omega))
theorem v_agcheck (c : Cl) (t : Tm) (hc : c.hs.length ≤ 9223372036854775807) : V.Fn Try.prog 88 [.arr 1 c.hs.length (ga e1 c.hs)] [.agg [.val (.int .i64 c.we), .ref 0], .agg [.val (.int .i64 t.ex), .val (.int .i64 t.bu), .val (.int .i64 t.de), .val (.int .i64 t.ra)]] (.int .i64 (Ag.ck c t)) := by
  have h1 := @Ag.ck_1 c t
  have h2 := @Ag.ck_2 c t
  refine V.Fn.mk_ V.Tok V.mixed Try.func88 rfl Try.ntmps88 (by kernel_rfl) rfl rfl ?_
  repeat' ((conv => whnf); first | refine V.NCond.mk ?_ | refine V.NIf.not_ ?_ | refine V.NIf.dec_ ?_ | refine V.a4 ?_ | refine V.a5 ?_ | refine V.NIf.mk (fun _ => ?_) (fun _ => ?_) | refine V.a7 ?_ | refine V.a8 ?_ | refine V.a9 ?_ | refine V.NBoth.mk ?_ ?_ | refine V.b1 ?_ | refine V.b2 ?_ | refine V.NTF.dec ?_ | refine V.b3 ?_ | refine V.b4 ?_ | ((first | refine V.Fn.k (v_caCheck c hc) [0] rfl ?_ ?_ | refine V.Fn.q (v_caCheck c hc) [0] rfl ?_ ?_ | refine V.Fn.a (v_caCheck c hc) [0] rfl ?_ ?_); · exact V.D_) | (first | refine V.Fn.k0 (v_agCheck _) rfl ?_ | refine V.Fn.q0 (v_agCheck _) rfl ?_ | refine V.Fn.a0 (v_agCheck _) rfl ?_) | (refine V.NDraw.any (by kernel_rfl) ?_) | fail)
  all_goals (conv => whnf)
  · exact V.fin1 (h2 (by omega))
  · exact V.fin1 (h1 (by assumption))
theorem v_steps (c : Cl) (day : Int) (l : List Int) (h : Ca.Ok c) (hd : Ca.Day day) (hn : l.length ≤ 1000) (hb : ∀ x ∈ l, 0 ≤ x ∧ x ≤ 100) : V.FnR Try.prog 89 [.arr 1 c.hs.length (ga e1 c.hs), .arr 1 l.length (ga e1 l)] [.agg [.val (.int .i64 c.we), .ref 0], .one (.val (.int .i64 day)), .one (.ref 1)] (.tup [.one (.ref 2), .one (.val (.bool (decide (Ag.okS c day l))))]) [.row 3 1 (if Ag.okS c day l then Ag.sq c day l else []).length (ga e1 (if Ag.okS c day l then Ag.sq c day l else []))] := by
  have sl := Ag.sq_len c l day
  refine V.FnR.mk_ V.Tok V.mixed Try.func89 rfl Try.ntmps89 (by kernel_rfl) rfl rfl rfl rfl ?_
  repeat' ((conv => whnf); first | refine V.NCond.mk ?_ | refine V.NIf.not_ ?_ | refine V.NIf.dec_ ?_ | refine V.a4 ?_ | refine V.a5 ?_ | refine V.NIf.mk (fun _ => ?_) (fun _ => ?_) | refine V.a7 ?_ | refine V.a8 ?_ | refine V.a9 ?_ | refine V.NBoth.mk ?_ ?_ | refine V.b1 ?_ | refine V.b2 ?_ | refine V.NTF.dec ?_ | refine V.b3 ?_ | refine V.b4 ?_ | (refine V.NDraw.any (by kernel_rfl) ?_) | fail)
  all_goals (conv => whnf)
  refine V.NLoop.auto (fun (k : Nat) => [(13, .one (.val (.int .i64 k))), (1, .one (.val (.int .i64 ((day :: Ag.sq c day l).getD k default)))), (8, .one (.ref 4))]) (fun (k : Nat) => [(4, .row 3 1 ((Ag.sq c day l).take k).length (ga e1 ((Ag.sq c day l).take k)))]) [] [] (fun (k : Nat) => l.length - k) (fun (k : Nat) => k ≤ l.length ∧ ∀ j, j < k → 0 ≤ (Ag.sq c day l).getD j default) 0 ⟨Nat.zero_le _, fun j hj => absurd hj (Nat.not_lt_zero _)⟩ V.S_ V.S_ (fun _ => ⟨rfl, rfl⟩) ?_; (conv => whnf); refine ⟨⟨rfl, rfl⟩, ?_⟩
  rintro k ⟨hk, hJ⟩
  have dk := Ag.sq_day (l := l) hd k hk hJ
  by_cases hlt : k < l.length
  · have bk := hb _ (getD_mem hlt)
    have sa := Ag.sq_at c l day k hlt
    have tk : (Ag.sq c day l).take (k + 1) = (Ag.sq c day l).take k ++ [(Ag.sq c day l).getD k default] := by
      rw [List.take_succ_eq_append_getElem (by omega), getD_at (by omega)]
    have tl : ((Ag.sq c day l).take k).length = k := by rw [List.length_take]; omega
    generalize hx : (day :: Ag.sq c day l).getD k default = cur at *
    have rw_ := v_caRaw c cur (l.getD k default) h dk (by omega)
    rw [← sa] at rw_
    repeat' ((conv => whnf); first | refine V.NCond.mk ?_ | refine V.NIf.not_ ?_ | refine V.NIf.dec_ ?_ | refine V.a4 ?_ | refine V.a5 ?_ | refine V.NIf.mk (fun _ => ?_) (fun _ => ?_) | refine V.a7 ?_ | refine V.a8 ?_ | refine V.a9 ?_ | refine V.NBoth.mk ?_ ?_ | refine V.b1 ?_ | refine V.b2 ?_ | refine V.NTF.dec ?_ | refine V.b3 ?_ | refine V.b4 ?_ | (refine NIdx.mk ⟨k, rfl, by omega, ?_⟩) | ((first | refine V.Fn.k (rw_) [0] rfl ?_ ?_ | refine V.Fn.q (rw_) [0] rfl ?_ ?_ | refine V.Fn.a (rw_) [0] rfl ?_ ?_); · exact V.D_) | (refine V.NDraw.any (by kernel_rfl) ?_) | fail)
    all_goals (conv => whnf)
    · have no : ¬ Ag.okS c day l := fun q => by
        have := q _ (getD_mem (l := Ag.sq c day l) (k := k) (by omega))
        omega
      rw [if_neg no, decide_eq_false no]
      refine NRet.mk_ [some 5] rfl ⟨rfl, rfl, trivial⟩ ⟨⟨rfl, rfl, rfl, fun k hk => absurd hk (Nat.not_lt_zero _)⟩, trivial⟩
    · refine V.NBack.at_ (k + 1) [(4, 6)] ⟨by omega, fun j hj => ?_⟩ (by omega) V.S_ rfl ⟨ObLe.as_ tk, trivial⟩ V.S_ V.S_
      by_cases e : j = k
      · subst e; omega
      · exact hJ j (by omega)
  · obtain rfl : k = l.length := by omega
    have ok : Ag.okS c day l := fun x hx => by
      obtain ⟨j, hj, rfl⟩ := List.getElem_of_mem hx
      have := hJ j (by omega)
      rwa [getD_at hj] at this
    have tw : (Ag.sq c day l).take l.length = Ag.sq c day l := by rw [← sl, List.take_length]
    rw [tw]
    clear tw
    rw [if_pos ok, decide_eq_true ok]
    repeat' ((conv => whnf); first | refine V.NCond.mk ?_ | refine V.NIf.not_ ?_ | refine V.NIf.dec_ ?_ | refine V.a4 ?_ | refine V.a5 ?_ | refine V.NIf.mk (fun _ => ?_) (fun _ => ?_) | refine V.a7 ?_ | refine V.a8 ?_ | refine V.a9 ?_ | refine V.NBoth.mk ?_ ?_ | refine V.b1 ?_ | refine V.b2 ?_ | refine V.NTF.dec ?_ | refine V.b3 ?_ | refine V.b4 ?_ | (refine V.NDraw.any (by kernel_rfl) ?_) | fail)
    all_goals (conv => whnf)
    refine NRet.mk_ [some 4] rfl ⟨rfl, rfl, trivial⟩ ⟨⟨rfl, rfl, rfl, fun k hk => rfl⟩, trivial⟩
theorem v_steps4 (c : Cl) (t : Tm) (day : Int) (h : Ca.Ok c) (hw : Ag.Wi t) (hd : Ca.Day day) :
    (Ag.There c t day → V.FnR Try.prog 89 [.arr 1 c.hs.length (ga e1 c.hs), .arr 1 [0, t.ex, t.bu, t.de].length (ga e1 [0, t.ex, t.bu, t.de])] [.agg [.val (.int .i64 c.we), .ref 0], .one (.val (.int .i64 day)), .one (.ref 1)] (.tup [.one (.ref 2), .one (.val (.bool true))]) [.row 3 1 [day, Ag.d1 c t day, Ag.d2 c t day, Ag.d3 c t day].length (ga e1 [day, Ag.d1 c t day, Ag.d2 c t day, Ag.d3 c t day])]) ∧
    (¬ Ag.There c t day → V.FnR Try.prog 89 [.arr 1 c.hs.length (ga e1 c.hs), .arr 1 [0, t.ex, t.bu, t.de].length (ga e1 [0, t.ex, t.bu, t.de])] [.agg [.val (.int .i64 c.we), .ref 0], .one (.val (.int .i64 day)), .one (.ref 1)] (.tup [.one (.ref 2), .one (.val (.bool false))]) [.row 3 1 ([] : List Int).length (ga e1 [])]) := by
  obtain ⟨w1, w2, w3, w4⟩ := hw
  have s := v_steps c day [0, t.ex, t.bu, t.de] h hd (by simp) (fun x hx => by simp at hx; omega)
  refine ⟨fun q => ?_, fun q => ?_⟩
  · rw [decide_eq_true ((Ag.ok4 hd).2 q), if_pos ((Ag.ok4 hd).2 q), Ag.sq4] at s; exact s
  · rw [decide_eq_false (fun z => q ((Ag.ok4 hd).1 z)), if_neg (fun z => q ((Ag.ok4 hd).1 z))] at s; exact s
theorem v_agStage (c : Cl) (t : Tm) (f : Fl) (n : Int) (hc : c.hs.length ≤ 9223372036854775807) : V.Fn Try.prog 18 [.arr 1 c.hs.length (ga e1 c.hs)] [.agg [.val (.int .i64 c.we), .ref 0], .agg [.val (.int .i64 t.ex), .val (.int .i64 t.bu), .val (.int .i64 t.de), .val (.int .i64 t.ra)], .agg [.val (.int .i64 f.id), .val (.int .i64 f.fr), .val (.int .i64 f.to), .val (.int .i64 f.cl), .val (.int .i64 f.pa), .val (.int .i64 f.day), .val (.int .i64 f.un), .val (.int .i64 f.de), .val (.int .i64 f.bo), .val (.int .i64 f.pd)], .one (.val (.int .i64 n))] (.tuple #[.int .i64 (Ag.sV c t f n), .int .i64 (Ag.sE c t f n)]) := by
  have ck := v_agcheck c t hc
  by_cases h1 : Ag.ck c t = 0
  · by_cases h2 : F.chk f = 0
    · obtain ⟨k1, k2⟩ := Ag.ck_ok h1
      have hd := Ag.f_day h2
      have s3 := Ag.s0_3 (n := n) h1 h2
      obtain ⟨s1, s2⟩ := v_steps4 c t f.day (Ca.chk_ok k1) k2 hd
      have fc := v_fcheck f
      rw [h1] at ck
      rw [h2] at fc
      by_cases h3 : D.chk n = 0
      · have dc := v_dcheck n
        rw [h3] at dc s3
        by_cases h4 : Ag.There c t f.day
        · have s1 := s1 h4
          have e := Ag.sE_3 s3 h4
          rw [e, Ag.sV_yes e]
          refine V.Fn.mk_ V.Tok V.mixed Try.func18 rfl Try.ntmps18 (by kernel_rfl) rfl rfl ?_
          repeat' ((conv => whnf); first | (refine V.NIf.yes ?_ ?_; · (decide; done)) | (refine V.NIf.no ?_ ?_; · (decide; done)) | refine V.NCond.mk ?_ | refine V.NIf.not_ ?_ | refine V.NIf.dec_ ?_ | refine V.a4 ?_ | refine V.a5 ?_ | refine V.NIf.mk (fun _ => ?_) (fun _ => ?_) | refine V.a7 ?_ | refine V.a8 ?_ | refine V.a9 ?_ | refine V.NBoth.mk ?_ ?_ | refine V.b1 ?_ | refine V.b2 ?_ | refine V.NTF.dec ?_ | refine V.b3 ?_ | refine V.b4 ?_ | (refine V.NCall.inl (f := 55) V.Tok V.mixed Try.func55 rfl Try.ntmps55 (by kernel_rfl) rfl ?_) | (refine V.NCall.inl (f := 56) V.Tok V.mixed Try.func56 rfl Try.ntmps56 (by kernel_rfl) rfl ?_) | ((first | refine V.Fn.k (ck) [0] rfl ?_ ?_ | refine V.Fn.q (ck) [0] rfl ?_ ?_ | refine V.Fn.a (ck) [0] rfl ?_ ?_); · exact V.D_) | (first | refine V.Fn.k0 (dc) rfl ?_ | refine V.Fn.q0 (dc) rfl ?_ | refine V.Fn.a0 (dc) rfl ?_) | (first | refine V.Fn.k0 (fc) rfl ?_ | refine V.Fn.q0 (fc) rfl ?_ | refine V.Fn.a0 (fc) rfl ?_) | ((first | refine V.FnR.k_ (s1) [0, 7] rfl ?_ ?_ | refine V.FnR.a_ (s1) [0, 7] rfl ?_ ?_); · exact V.D_) | (first | refine V.Fn.k0 (v_fleft f (F.chk_ok h2)) rfl ?_ | refine V.Fn.q0 (v_fleft f (F.chk_ok h2)) rfl ?_ | refine V.Fn.a0 (v_fleft f (F.chk_ok h2)) rfl ?_) | (refine V.NDraw.any (by kernel_rfl) ?_) | fail)
          all_goals (conv => whnf)
          · exact ⟨V.fin1 (if_pos (by assumption)), rfl, trivial⟩
          rw [Ag.stg_cn (by assumption)]
          generalize hl : [f.day, Ag.d1 c t f.day, Ag.d2 c t f.day, Ag.d3 c t f.day] = l at *
          have nl : l.length = 4 := by rw [← hl]; rfl
          refine V.NLoop.auto (fun (k : Nat) => [(19, .one (.val (.int .i64 k))), (5, .one (.val (.int .i64 (Ag.cn n (l.take k)))))]) (fun (k : Nat) => []) [] [] (fun (k : Nat) => l.length - k) (fun (k : Nat) => k ≤ l.length) 0 (Nat.zero_le _) V.S_ V.S_ (fun _ => ⟨rfl, rfl⟩) ?_; (conv => whnf); refine ⟨⟨rfl, rfl⟩, ?_⟩
          rintro k hk
          have b := Ag.cn_bd n (l.take k)
          rw [List.length_take] at b
          by_cases hlt : k < l.length
          · have sn : Ag.cn n (l.take (k + 1)) = Ag.cn n (l.take k) + Ag.one (l.getD k default < n) := by
              rw [List.take_succ_eq_append_getElem hlt, Ag.cn_snoc, getD_at hlt]
            repeat' ((conv => whnf); first | refine V.NCond.mk ?_ | refine V.NIf.not_ ?_ | refine V.NIf.dec_ ?_ | refine V.a4 ?_ | refine V.a5 ?_ | refine V.NIf.mk (fun _ => ?_) (fun _ => ?_) | refine V.a7 ?_ | refine V.a8 ?_ | refine V.a9 ?_ | refine V.NBoth.mk ?_ ?_ | refine V.b1 ?_ | refine V.b2 ?_ | refine V.NTF.dec ?_ | refine V.b3 ?_ | refine V.b4 ?_ | (refine NIdx.mk ⟨k, rfl, by omega, ?_⟩) | (refine V.NDraw.any (by kernel_rfl) ?_) | fail)
            all_goals (conv => whnf)
            · exact V.NBack.at_ (k + 1) [] (by omega) (by omega) ⟨V.S_, congrArg (fun z => V.SV.one (V.At.val (Value.int .i64 z))) (by rw [sn]; unfold Ag.one; rw [if_pos (by assumption)]), trivial⟩ rfl V.S_ V.S_ V.S_
            · exact V.NBack.at_ (k + 1) [] (by omega) (by omega) ⟨V.S_, congrArg (fun z => V.SV.one (V.At.val (Value.int .i64 z))) (by rw [sn]; unfold Ag.one; rw [if_neg (by assumption)]; omega), trivial⟩ rfl V.S_ V.S_ V.S_
          · obtain rfl : k = l.length := by omega
            rw [List.take_length]
            repeat' ((conv => whnf); first | refine V.NCond.mk ?_ | refine V.NIf.not_ ?_ | refine V.NIf.dec_ ?_ | refine V.a4 ?_ | refine V.a5 ?_ | refine V.NIf.mk (fun _ => ?_) (fun _ => ?_) | refine V.a7 ?_ | refine V.a8 ?_ | refine V.a9 ?_ | refine V.NBoth.mk ?_ ?_ | refine V.b1 ?_ | refine V.b2 ?_ | refine V.NTF.dec ?_ | refine V.b3 ?_ | refine V.b4 ?_ | (refine V.NDraw.any (by kernel_rfl) ?_) | fail)
            all_goals (conv => whnf)
            exact ⟨rfl, rfl, trivial⟩
        · have s2 := s2 h4
          have e := Ag.sE_2 s3 h4
          rw [e, (Ag.sV_no (by omega)).1]
          refine V.Fn.mk_ V.Tok V.mixed Try.func18 rfl Try.ntmps18 (by kernel_rfl) rfl rfl ?_
          repeat' ((conv => whnf); first | (refine V.NIf.yes ?_ ?_; · (decide; done)) | (refine V.NIf.no ?_ ?_; · (decide; done)) | refine V.NCond.mk ?_ | refine V.NIf.not_ ?_ | refine V.NIf.dec_ ?_ | refine V.a4 ?_ | refine V.a5 ?_ | refine V.NIf.mk (fun _ => ?_) (fun _ => ?_) | refine V.a7 ?_ | refine V.a8 ?_ | refine V.a9 ?_ | refine V.NBoth.mk ?_ ?_ | refine V.b1 ?_ | refine V.b2 ?_ | refine V.NTF.dec ?_ | refine V.b3 ?_ | refine V.b4 ?_ | (refine V.NCall.inl (f := 55) V.Tok V.mixed Try.func55 rfl Try.ntmps55 (by kernel_rfl) rfl ?_) | ((first | refine V.Fn.k (ck) [0] rfl ?_ ?_ | refine V.Fn.q (ck) [0] rfl ?_ ?_ | refine V.Fn.a (ck) [0] rfl ?_ ?_); · exact V.D_) | (first | refine V.Fn.k0 (dc) rfl ?_ | refine V.Fn.q0 (dc) rfl ?_ | refine V.Fn.a0 (dc) rfl ?_) | (first | refine V.Fn.k0 (fc) rfl ?_ | refine V.Fn.q0 (fc) rfl ?_ | refine V.Fn.a0 (fc) rfl ?_) | ((first | refine V.FnR.k_ (s2) [0, 7] rfl ?_ ?_ | refine V.FnR.a_ (s2) [0, 7] rfl ?_ ?_); · exact V.D_) | (refine V.NDraw.any (by kernel_rfl) ?_) | fail)
          all_goals (conv => whnf)
          all_goals exact ⟨rfl, rfl, trivial⟩
      · have e := (Ag.sE_1 (c := c) (t := t) (f := f) (n := n) (by omega)).trans s3
        rw [e, (Ag.sV_no (by omega)).1]
        refine V.Fn.mk_ V.Tok V.mixed Try.func18 rfl Try.ntmps18 (by kernel_rfl) rfl rfl ?_
        repeat' ((conv => whnf); first | (refine V.NIf.yes ?_ ?_; · (decide; done)) | (refine V.NIf.no ?_ ?_; · (decide; done)) | refine V.NCond.mk ?_ | refine V.NIf.not_ ?_ | refine V.NIf.dec_ ?_ | refine V.a4 ?_ | refine V.a5 ?_ | refine V.NIf.mk (fun _ => ?_) (fun _ => ?_) | refine V.a7 ?_ | refine V.a8 ?_ | refine V.a9 ?_ | refine V.NBoth.mk ?_ ?_ | refine V.b1 ?_ | refine V.b2 ?_ | refine V.NTF.dec ?_ | refine V.b3 ?_ | refine V.b4 ?_ | (refine V.NCall.inl (f := 55) V.Tok V.mixed Try.func55 rfl Try.ntmps55 (by kernel_rfl) rfl ?_) | ((first | refine V.Fn.k (ck) [0] rfl ?_ ?_ | refine V.Fn.q (ck) [0] rfl ?_ ?_ | refine V.Fn.a (ck) [0] rfl ?_ ?_); · exact V.D_) | (first | refine V.Fn.k0 (v_dcheck n) rfl ?_ | refine V.Fn.q0 (v_dcheck n) rfl ?_ | refine V.Fn.a0 (v_dcheck n) rfl ?_) | (first | refine V.Fn.k0 (fc) rfl ?_ | refine V.Fn.q0 (fc) rfl ?_ | refine V.Fn.a0 (fc) rfl ?_) | (refine V.NDraw.any (by kernel_rfl) ?_) | fail)
        all_goals (conv => whnf)
        all_goals exact ⟨rfl, rfl, trivial⟩
    · have s3 := Ag.s0_2 (n := n) h1 h2
      have e := (Ag.sE_1 (c := c) (t := t) (f := f) (n := n) (by omega)).trans s3
      rw [e, (Ag.sV_no (by omega)).1]
      rw [h1] at ck
      refine V.Fn.mk_ V.Tok V.mixed Try.func18 rfl Try.ntmps18 (by kernel_rfl) rfl rfl ?_
      repeat' ((conv => whnf); first | (refine V.NIf.yes ?_ ?_; · (decide; done)) | (refine V.NIf.no ?_ ?_; · (decide; done)) | refine V.NCond.mk ?_ | refine V.NIf.not_ ?_ | refine V.NIf.dec_ ?_ | refine V.a4 ?_ | refine V.a5 ?_ | refine V.NIf.mk (fun _ => ?_) (fun _ => ?_) | refine V.a7 ?_ | refine V.a8 ?_ | refine V.a9 ?_ | refine V.NBoth.mk ?_ ?_ | refine V.b1 ?_ | refine V.b2 ?_ | refine V.NTF.dec ?_ | refine V.b3 ?_ | refine V.b4 ?_ | (refine V.NCall.inl (f := 55) V.Tok V.mixed Try.func55 rfl Try.ntmps55 (by kernel_rfl) rfl ?_) | ((first | refine V.Fn.k (ck) [0] rfl ?_ ?_ | refine V.Fn.q (ck) [0] rfl ?_ ?_ | refine V.Fn.a (ck) [0] rfl ?_ ?_); · exact V.D_) | (first | refine V.Fn.k0 (v_fcheck f) rfl ?_ | refine V.Fn.q0 (v_fcheck f) rfl ?_ | refine V.Fn.a0 (v_fcheck f) rfl ?_) | (refine V.NDraw.any (by kernel_rfl) ?_) | fail)
      all_goals (conv => whnf)
      all_goals exact ⟨rfl, rfl, trivial⟩
  · have s3 := Ag.s0_1 (f := f) (n := n) h1
    have e := (Ag.sE_1 (c := c) (t := t) (f := f) (n := n) (by omega)).trans s3
    rw [e, (Ag.sV_no (by omega)).1]
    refine V.Fn.mk_ V.Tok V.mixed Try.func18 rfl Try.ntmps18 (by kernel_rfl) rfl rfl ?_
    repeat' ((conv => whnf); first | (refine V.NIf.yes ?_ ?_; · (decide; done)) | (refine V.NIf.no ?_ ?_; · (decide; done)) | refine V.NCond.mk ?_ | refine V.NIf.not_ ?_ | refine V.NIf.dec_ ?_ | refine V.a4 ?_ | refine V.a5 ?_ | refine V.NIf.mk (fun _ => ?_) (fun _ => ?_) | refine V.a7 ?_ | refine V.a8 ?_ | refine V.a9 ?_ | refine V.NBoth.mk ?_ ?_ | refine V.b1 ?_ | refine V.b2 ?_ | refine V.NTF.dec ?_ | refine V.b3 ?_ | refine V.b4 ?_ | (refine V.NCall.inl (f := 55) V.Tok V.mixed Try.func55 rfl Try.ntmps55 (by kernel_rfl) rfl ?_) | ((first | refine V.Fn.k (ck) [0] rfl ?_ ?_ | refine V.Fn.q (ck) [0] rfl ?_ ?_ | refine V.Fn.a (ck) [0] rfl ?_ ?_); · exact V.D_) | (refine V.NDraw.any (by kernel_rfl) ?_) | fail)
    all_goals (conv => whnf)
    all_goals exact ⟨rfl, rfl, trivial⟩
end Go.Proofs.Ytdeekpcfmgfmcaa

/- What the document's own functions on ages answer. -/
namespace Go.Proofs.Ytdeekpcfmgfmcaa
open Go Go.RowKit V
set_option maxRecDepth 100000
set_option linter.unusedVariables false
end Go.Proofs.Ytdeekpcfmgfmcaa

/- What lateness costs: the walks. -/
namespace Go.Proofs.Ytdeekpcfmgfmcaa
open Go Go.RowKit V
set_option maxRecDepth 100000
set_option linter.unusedVariables false
theorem fin_ii {x y u v : Int} (h1 : u = x) (h2 : v = y) : Fin1 (.one (.val (.int .i64 x))) (.int .i64 u) ∧ FinL [.one (.val (.int .i64 y))] [.int .i64 v] := ⟨V.fin1 h1, V.fin1 h2, trivial⟩
namespace Pn
theorem cost_yes {u p : Int} (hu : 0 ≤ u ∧ u ≤ 1073741824) (hp : P.Ok p) : M.prE u p 10000 = 0 ∧ M.prQ u p 10000 = P.cost u p := by
  have b := P.cost_bd hu hp
  have hp' := hp
  unfold P.Ok at hp'
  have k : M.POk u p 10000 := ⟨by unfold M.Amt; omega, hp', by omega⟩
  have a : M.Amt (u * p / 10000) := by unfold P.cost at b; unfold M.Amt; omega
  exact ⟨(M.pr_3 k a).1, (M.pr_3 k a).2.1⟩
theorem cost_no {u p : Int} (hp : ¬ P.Ok p) : M.prE u p 10000 = 3 := (M.pr_1 fun k => hp k.2.1).1
end Pn
theorem v_daily (u p r : Int) : V.Fn Try.prog 9 [] [.one (.val (.int .i64 u)), .one (.val (.int .i64 p)), .one (.val (.int .i64 r))] (.tuple #[.int .i64 (Pn.dV u p r), .int .i64 (Pn.dE u p r)]) := by
  refine V.Fn.mk_ V.Tok V.mixed Try.func9 rfl Try.ntmps9 (by kernel_rfl) rfl rfl ?_
  repeat' ((conv => whnf); first | refine V.NCond.mk ?_ | refine V.NIf.not_ ?_ | refine V.NIf.dec_ ?_ | refine V.a4 ?_ | refine V.a5 ?_ | refine V.NIf.mk (fun _ => ?_) (fun _ => ?_) | refine V.a7 ?_ | refine V.a8 ?_ | refine V.a9 ?_ | refine V.NBoth.mk ?_ ?_ | refine V.b1 ?_ | refine V.b2 ?_ | refine V.NTF.dec ?_ | refine V.b3 ?_ | refine V.b4 ?_ | (first | refine V.Fn.k0 (v_cost _ _) rfl ?_ | refine V.Fn.q0 (v_cost _ _) rfl ?_ | refine V.Fn.a0 (v_cost _ _) rfl ?_) | (first | refine V.Fn.k0 (v_part _ _ _) rfl ?_ | refine V.Fn.q0 (v_part _ _ _) rfl ?_ | refine V.Fn.a0 (v_part _ _ _) rfl ?_) | (refine V.NDraw.any (by kernel_rfl) ?_) | fail)
  all_goals (conv => whnf)
  iterate 4
    · have n : ¬ Pn.Ok u p r := fun k => by obtain ⟨a, _, b⟩ := k; omega
      exact fin_ii (Pn.d_no n).2 (Pn.d_no n).1
  · have pk : P.Ok p := Classical.byContradiction fun n => by have := Pn.cost_no (u := u) n; omega
    have k : Pn.Ok u p r := ⟨by omega, pk, by omega⟩
    rw [(Pn.cost_yes k.1 pk).2]
    exact fin_ii ((Pn.d_yes k).2.trans (Pn.cs_part k).2.symm) ((Pn.d_yes k).1.trans (Pn.cs_part k).1.symm)
  · have pk : ¬ P.Ok p := fun k => by have := (Pn.cost_yes (u := u) (by omega) k).1; omega
    have n : ¬ Pn.Ok u p r := fun k => pk k.2.1
    exact fin_ii (Pn.d_no n).2 ((Pn.d_no n).1.trans (Pn.cost_no pk).symm)
theorem v_pterms (t : List Tm) (hn : t.length ≤ 9223372036854775807) : V.Fn Try.prog 33 [.arr 4 t.length (ga encTm t)] [.one (.ref 0)] (.int .i64 (Pn.tE t)) := by
  refine V.Fn.mk_ V.Tok V.mixed Try.func33 rfl Try.ntmps33 (by kernel_rfl) rfl rfl ?_
  repeat' ((conv => whnf); first | refine V.NCond.mk ?_ | refine V.NIf.not_ ?_ | refine V.NIf.dec_ ?_ | refine V.a4 ?_ | refine V.a5 ?_ | refine V.NIf.mk (fun _ => ?_) (fun _ => ?_) | refine V.a7 ?_ | refine V.a8 ?_ | refine V.a9 ?_ | refine V.NBoth.mk ?_ ?_ | refine V.b1 ?_ | refine V.b2 ?_ | refine V.NTF.dec ?_ | refine V.b3 ?_ | refine V.b4 ?_ | (refine V.NDraw.any (by kernel_rfl) ?_) | fail)
  all_goals (conv => whnf)
  rotate_left
  · exact V.fin1 (Pn.tE_len (by omega))
  refine V.NLoop.auto (fun (k : Nat) => [(11, .one (.val (.int .i64 k)))]) (fun (k : Nat) => []) [] [] (fun (k : Nat) => t.length - k) (fun (k : Nat) => k ≤ t.length ∧ ∀ x ∈ t.take k, Ag.Wi x) 0 ⟨by omega, by simp⟩ V.S_ V.S_ (fun _ => ⟨rfl, rfl⟩) ?_; (conv => whnf); refine ⟨⟨rfl, rfl⟩, ?_⟩
  rintro k ⟨hk, hJ⟩
  repeat' ((conv => whnf); first | refine V.NCond.mk ?_ | refine V.NIf.not_ ?_ | refine V.NIf.dec_ ?_ | refine V.a4 ?_ | refine V.a5 ?_ | refine V.NIf.mk (fun _ => ?_) (fun _ => ?_) | refine V.a7 ?_ | refine V.a8 ?_ | refine V.a9 ?_ | refine V.NBoth.mk ?_ ?_ | refine V.b1 ?_ | refine V.b2 ?_ | refine V.NTF.dec ?_ | refine V.b3 ?_ | refine V.b4 ?_ | (refine NIdx.mk ⟨_, rfl, by omega, ?_⟩) | (first | refine V.Fn.k0 (v_agCheck _) rfl ?_ | refine V.Fn.q0 (v_agCheck _) rfl ?_ | refine V.Fn.a0 (v_agCheck _) rfl ?_) | (refine V.NDraw.any (by kernel_rfl) ?_) | fail)
  all_goals (conv => whnf)
  · exact V.NBack.at_ (k + 1) [] ⟨by omega, all_snoc (by omega) hJ (Ag.tchk_ok (by assumption))⟩ (by omega) V.S_ rfl V.S_ V.S_ V.S_
  · have n : ¬ Ag.Wi (t.getD k default) := fun h => absurd (show Ag.tchk (t.getD k default) = 0 from if_pos h) (by assumption)
    exact V.fin1 ((Pn.tE_bad (by omega) (getD_mem (by omega)) n).trans (show Ag.tchk (t.getD k default) = 3 from if_neg n).symm)
  · exact V.fin1 (Pn.tE_of (by omega) fun x hx => hJ x (by rw [List.take_of_length_le (by omega)]; exact hx))
theorem v_popen (c : Cl) (n : Int) (hn : c.hs.length ≤ 9223372036854775807) : V.Fn Try.prog 38 [.arr 1 c.hs.length (ga e1 c.hs)] [.agg [.val (.int .i64 c.we), .ref 0], .one (.val (.int .i64 n))] (.int .i64 (Pn.oE c n)) := by
  refine V.Fn.mk_ V.Tok V.mixed Try.func38 rfl Try.ntmps38 (by kernel_rfl) rfl rfl ?_
  repeat' ((conv => whnf); first | refine V.NCond.mk ?_ | refine V.NIf.not_ ?_ | refine V.NIf.dec_ ?_ | refine V.a4 ?_ | refine V.a5 ?_ | refine V.NIf.mk (fun _ => ?_) (fun _ => ?_) | refine V.a7 ?_ | refine V.a8 ?_ | refine V.a9 ?_ | refine V.NBoth.mk ?_ ?_ | refine V.b1 ?_ | refine V.b2 ?_ | refine V.NTF.dec ?_ | refine V.b3 ?_ | refine V.b4 ?_ | ((first | refine V.Fn.k (v_caIs c n hn) [0] rfl ?_ ?_ | refine V.Fn.q (v_caIs c n hn) [0] rfl ?_ ?_ | refine V.Fn.a (v_caIs c n hn) [0] rfl ?_ ?_); · exact V.D_) | (refine V.NDraw.any (by kernel_rfl) ?_) | fail)
  all_goals (conv => whnf)
  · exact V.fin1 ((if_neg (by omega)).trans ((if_pos (by unfold Ca.isV; simp; assumption)).trans (by omega)))
  · exact V.fin1 ((if_neg (by omega)).trans (if_neg (by unfold Ca.isV; rw [decide_eq_true_iff]; assumption)))
  · exact V.fin1 (if_pos (by assumption))
namespace Pn
theorem oE_yes {c : Cl} {n : Int} (h : Ca.chk c = 0) (k : Ca.Day n ∧ Ca.op c n = 1) : oE c n = 0 := by
  have e := Ca.e1_of h k.1
  exact (if_neg (by omega)).trans (if_pos (by unfold Ca.isV; rw [decide_eq_true_iff]; exact ⟨e, k.2⟩))
theorem oE_4 {c : Cl} {n : Int} (h : Ca.chk c = 0) (d : Ca.Day n) (k : ¬ (Ca.Day n ∧ Ca.op c n = 1)) : oE c n = 4 := by
  have e := Ca.e1_of h d
  exact (if_neg (by omega)).trans (if_neg (by unfold Ca.isV; rw [decide_eq_true_iff]; exact fun z => k ⟨d, z.2⟩))
end Pn
abbrev penO (c : Cl) (t : List Tm) (l : List Fl) (ps : List Int) : List Ob := [.arr 1 c.hs.length (ga e1 c.hs), .arr 4 t.length (ga encTm t), .arr 10 l.length (ga encF l), .arr 1 ps.length (ga e1 ps)]
end Go.Proofs.Ytdeekpcfmgfmcaa

/- What a day costs: the walk. -/
namespace Go.Proofs.Ytdeekpcfmgfmcaa
open Go Go.RowKit V
set_option maxRecDepth 100000
set_option linter.unusedVariables false
set_option maxHeartbeats 4000000 in
theorem v_day (c : Cl) (t : List Tm) (l : List Fl) (ps : List Int) (n : Int) (hc : c.hs.length ≤ 9223372036854775807) (ht : t.length ≤ 9223372036854775807) (hp : ps.length ≤ 9223372036854775807) :
    V.FnR Try.prog 10 (penO c t l ps) [.agg [.val (.int .i64 c.we), .ref 0], .one (.ref 1), .one (.ref 2), .one (.ref 3), .one (.val (.int .i64 n))] (.tup [.one (.ref 4), .one (.val (.int .i64 (Pn.yD c t l ps n)))]) [.row 45 3 (Pn.yL c t l ps n).length (ga encD (Pn.yL c t l ps n))] := by
  refine V.FnR.mk_ V.Tok V.mixed Try.func10 rfl Try.ntmps10 (by kernel_rfl) rfl rfl rfl rfl ?_
  repeat' ((conv => whnf); first | refine V.NCond.mk ?_ | refine V.NIf.not_ ?_ | refine V.NIf.dec_ ?_ | refine V.a4 ?_ | refine V.a5 ?_ | refine V.NIf.mk (fun _ => ?_) (fun _ => ?_) | refine V.a7 ?_ | refine V.a8 ?_ | refine V.a9 ?_ | refine V.NBoth.mk ?_ ?_ | refine V.b1 ?_ | refine V.b2 ?_ | refine V.NTF.dec ?_ | refine V.b3 ?_ | refine V.b4 ?_ | (refine V.NCall.inl (f := 29) V.Tok V.mixed Try.func29 rfl Try.ntmps29 (by kernel_rfl) rfl ?_) | (refine V.NDraw.any (by kernel_rfl) ?_) | fail)
  all_goals (conv => whnf)
  refine V.NLoop.auto (fun (k : Nat) => [(8, .one (.val (.int .i64 k)))]) (fun (k : Nat) => []) [] [] (fun (k : Nat) => 5 - k) (fun (k : Nat) => k ≤ 5 ∧ (1 ≤ k → Ca.chk c = 0) ∧ (2 ≤ k → Pn.tE t = 0) ∧ (3 ≤ k → F.checks l = 0) ∧ (4 ≤ k → P.chks ps = 0) ∧ (5 ≤ k → Pn.oE c n = 0)) 0 ⟨by omega, by omega, by omega, by omega, by omega, by omega⟩ V.S_ V.S_ (fun _ => ⟨rfl, rfl⟩) ?_; (conv => whnf); refine ⟨⟨rfl, rfl⟩, ?_⟩
  rintro k ⟨hk, j1, j2, j3, j4, j5⟩
  have hk6 : k = 0 ∨ k = 1 ∨ k = 2 ∨ k = 3 ∨ k = 4 ∨ k = 5 := by omega
  rcases hk6 with rfl | rfl | rfl | rfl | rfl | rfl
  · repeat' ((conv => whnf); first | (refine V.NIf.yes ?_ ?_; · (simp; done)) | refine V.NCond.mk ?_ | refine V.NIf.not_ ?_ | refine V.NIf.dec_ ?_ | refine V.a4 ?_ | refine V.a5 ?_ | refine V.NIf.mk (fun _ => ?_) (fun _ => ?_) | refine V.a7 ?_ | refine V.a8 ?_ | refine V.a9 ?_ | refine V.NBoth.mk ?_ ?_ | refine V.b1 ?_ | refine V.b2 ?_ | refine V.NTF.dec ?_ | refine V.b3 ?_ | refine V.b4 ?_ | (refine NIdx.mk ⟨0, rfl, by simp, ?_⟩) | (refine V.NCall.inl (f := 30) V.Tok V.mixed Try.func30 rfl Try.ntmps30 (by kernel_rfl) rfl ?_) | ((first | refine V.Fn.k (v_caCheck c hc) [0] rfl ?_ ?_ | refine V.Fn.q (v_caCheck c hc) [0] rfl ?_ ?_ | refine V.Fn.a (v_caCheck c hc) [0] rfl ?_ ?_); · exact V.D_) | (refine V.NDraw.any (by kernel_rfl) ?_) | fail)
    all_goals (conv => whnf)
    · exact V.NBack.at_ 1 [] ⟨by omega, fun _ => by assumption, by omega, by omega, by omega, by omega⟩ (by omega) V.S_ rfl V.S_ V.S_ V.S_
    · have e := Pn.yE_1 (c := c) (t := t) (l := l) (ps := ps) (n := n)  (by assumption)
      have y := Pn.y_no (c := c) (t := t) (l := l) (ps := ps) (n := n) (by rw [e]; assumption)
      rw [y.1, y.2, e]
      (first | exact V.er 0 | exact V.er 1 | exact V.er 2 | exact V.er 3 | exact V.er 4 | exact V.er 5 | exact V.er 6 | exact V.er 7 | exact V.er 8 | exact V.er 9 | exact V.er 10 | exact V.er 11 | exact V.er 12 | exact V.er 13 | exact V.er 14 | exact V.er 15 | exact V.er 16 | exact V.er 17)
  · repeat' ((conv => whnf); first | (refine V.NIf.yes ?_ ?_; · (simp; done)) | refine V.NCond.mk ?_ | refine V.NIf.not_ ?_ | refine V.NIf.dec_ ?_ | refine V.a4 ?_ | refine V.a5 ?_ | refine V.NIf.mk (fun _ => ?_) (fun _ => ?_) | refine V.a7 ?_ | refine V.a8 ?_ | refine V.a9 ?_ | refine V.NBoth.mk ?_ ?_ | refine V.b1 ?_ | refine V.b2 ?_ | refine V.NTF.dec ?_ | refine V.b3 ?_ | refine V.b4 ?_ | (refine NIdx.mk ⟨1, rfl, by simp, ?_⟩) | (refine V.NCall.inl (f := 32) V.Tok V.mixed Try.func32 rfl Try.ntmps32 (by kernel_rfl) rfl ?_) | ((first | refine V.Fn.k (v_pterms t ht) [1] rfl ?_ ?_ | refine V.Fn.q (v_pterms t ht) [1] rfl ?_ ?_ | refine V.Fn.a (v_pterms t ht) [1] rfl ?_ ?_); · exact V.D_) | (refine V.NDraw.any (by kernel_rfl) ?_) | fail)
    all_goals (conv => whnf)
    · exact V.NBack.at_ 2 [] ⟨by omega, fun _ => j1 (by omega), fun _ => by assumption, by omega, by omega, by omega⟩ (by omega) V.S_ rfl V.S_ V.S_ V.S_
    · have e := Pn.yE_2 (c := c) (t := t) (l := l) (ps := ps) (n := n) (j1 (by omega)) (by assumption)
      have y := Pn.y_no (c := c) (t := t) (l := l) (ps := ps) (n := n) (by rw [e]; assumption)
      rw [y.1, y.2, e]
      (first | exact V.er 0 | exact V.er 1 | exact V.er 2 | exact V.er 3 | exact V.er 4 | exact V.er 5 | exact V.er 6 | exact V.er 7 | exact V.er 8 | exact V.er 9 | exact V.er 10 | exact V.er 11 | exact V.er 12 | exact V.er 13 | exact V.er 14 | exact V.er 15 | exact V.er 16 | exact V.er 17)
  · repeat' ((conv => whnf); first | (refine V.NIf.yes ?_ ?_; · (simp; done)) | refine V.NCond.mk ?_ | refine V.NIf.not_ ?_ | refine V.NIf.dec_ ?_ | refine V.a4 ?_ | refine V.a5 ?_ | refine V.NIf.mk (fun _ => ?_) (fun _ => ?_) | refine V.a7 ?_ | refine V.a8 ?_ | refine V.a9 ?_ | refine V.NBoth.mk ?_ ?_ | refine V.b1 ?_ | refine V.b2 ?_ | refine V.NTF.dec ?_ | refine V.b3 ?_ | refine V.b4 ?_ | (refine NIdx.mk ⟨2, rfl, by simp, ?_⟩) | (refine V.NCall.inl (f := 34) V.Tok V.mixed Try.func34 rfl Try.ntmps34 (by kernel_rfl) rfl ?_) | ((first | refine V.Fn.k (v_fchecks l) [2] rfl ?_ ?_ | refine V.Fn.q (v_fchecks l) [2] rfl ?_ ?_ | refine V.Fn.a (v_fchecks l) [2] rfl ?_ ?_); · exact V.D_) | (refine V.NDraw.any (by kernel_rfl) ?_) | fail)
    all_goals (conv => whnf)
    · exact V.NBack.at_ 3 [] ⟨by omega, fun _ => j1 (by omega), fun _ => j2 (by omega), fun _ => by assumption, by omega, by omega⟩ (by omega) V.S_ rfl V.S_ V.S_ V.S_
    · have e := Pn.yE_3 (c := c) (t := t) (l := l) (ps := ps) (n := n) (j1 (by omega)) (j2 (by omega)) (by assumption)
      have y := Pn.y_no (c := c) (t := t) (l := l) (ps := ps) (n := n) (by rw [e]; assumption)
      rw [y.1, y.2, e]
      (first | exact V.er 0 | exact V.er 1 | exact V.er 2 | exact V.er 3 | exact V.er 4 | exact V.er 5 | exact V.er 6 | exact V.er 7 | exact V.er 8 | exact V.er 9 | exact V.er 10 | exact V.er 11 | exact V.er 12 | exact V.er 13 | exact V.er 14 | exact V.er 15 | exact V.er 16 | exact V.er 17)
  · repeat' ((conv => whnf); first | (refine V.NIf.yes ?_ ?_; · (simp; done)) | refine V.NCond.mk ?_ | refine V.NIf.not_ ?_ | refine V.NIf.dec_ ?_ | refine V.a4 ?_ | refine V.a5 ?_ | refine V.NIf.mk (fun _ => ?_) (fun _ => ?_) | refine V.a7 ?_ | refine V.a8 ?_ | refine V.a9 ?_ | refine V.NBoth.mk ?_ ?_ | refine V.b1 ?_ | refine V.b2 ?_ | refine V.NTF.dec ?_ | refine V.b3 ?_ | refine V.b4 ?_ | (refine NIdx.mk ⟨3, rfl, by simp, ?_⟩) | (refine V.NCall.inl (f := 36) V.Tok V.mixed Try.func36 rfl Try.ntmps36 (by kernel_rfl) rfl ?_) | ((first | refine V.Fn.k (v_prices ps hp) [3] rfl ?_ ?_ | refine V.Fn.q (v_prices ps hp) [3] rfl ?_ ?_ | refine V.Fn.a (v_prices ps hp) [3] rfl ?_ ?_); · exact V.D_) | (refine V.NDraw.any (by kernel_rfl) ?_) | fail)
    all_goals (conv => whnf)
    · exact V.NBack.at_ 4 [] ⟨by omega, fun _ => j1 (by omega), fun _ => j2 (by omega), fun _ => j3 (by omega), fun _ => by assumption, by omega⟩ (by omega) V.S_ rfl V.S_ V.S_ V.S_
    · have e := Pn.yE_4 (c := c) (t := t) (l := l) (ps := ps) (n := n) (j1 (by omega)) (j2 (by omega)) (j3 (by omega)) (by assumption)
      have y := Pn.y_no (c := c) (t := t) (l := l) (ps := ps) (n := n) (by rw [e]; assumption)
      rw [y.1, y.2, e]
      (first | exact V.er 0 | exact V.er 1 | exact V.er 2 | exact V.er 3 | exact V.er 4 | exact V.er 5 | exact V.er 6 | exact V.er 7 | exact V.er 8 | exact V.er 9 | exact V.er 10 | exact V.er 11 | exact V.er 12 | exact V.er 13 | exact V.er 14 | exact V.er 15 | exact V.er 16 | exact V.er 17)
  · repeat' ((conv => whnf); first | (refine V.NIf.yes ?_ ?_; · (simp; done)) | refine V.NCond.mk ?_ | refine V.NIf.not_ ?_ | refine V.NIf.dec_ ?_ | refine V.a4 ?_ | refine V.a5 ?_ | refine V.NIf.mk (fun _ => ?_) (fun _ => ?_) | refine V.a7 ?_ | refine V.a8 ?_ | refine V.a9 ?_ | refine V.NBoth.mk ?_ ?_ | refine V.b1 ?_ | refine V.b2 ?_ | refine V.NTF.dec ?_ | refine V.b3 ?_ | refine V.b4 ?_ | (refine NIdx.mk ⟨4, rfl, by simp, ?_⟩) | (refine V.NCall.inl (f := 37) V.Tok V.mixed Try.func37 rfl Try.ntmps37 (by kernel_rfl) rfl ?_) | ((first | refine V.Fn.k (v_popen c n hc) [0] rfl ?_ ?_ | refine V.Fn.q (v_popen c n hc) [0] rfl ?_ ?_ | refine V.Fn.a (v_popen c n hc) [0] rfl ?_ ?_); · exact V.D_) | (refine V.NDraw.any (by kernel_rfl) ?_) | fail)
    all_goals (conv => whnf)
    · exact V.NBack.at_ 5 [] ⟨by omega, fun _ => j1 (by omega), fun _ => j2 (by omega), fun _ => j3 (by omega), fun _ => j4 (by omega), fun _ => by assumption⟩ (by omega) V.S_ rfl V.S_ V.S_ V.S_
    · have e := Pn.yE_5 (c := c) (t := t) (l := l) (ps := ps) (n := n) (j1 (by omega)) (j2 (by omega)) (j3 (by omega)) (j4 (by omega))
      have y := Pn.y_no (c := c) (t := t) (l := l) (ps := ps) (n := n) (by rw [e]; assumption)
      rw [y.1, y.2, e]
      (first | exact V.er 0 | exact V.er 1 | exact V.er 2 | exact V.er 3 | exact V.er 4 | exact V.er 5 | exact V.er 6 | exact V.er 7 | exact V.er 8 | exact V.er 9 | exact V.er 10 | exact V.er 11 | exact V.er 12 | exact V.er 13 | exact V.er 14 | exact V.er 15 | exact V.er 16 | exact V.er 17)
  repeat' ((conv => whnf); first | (refine V.NIf.no ?_ ?_; · (simp; done)) | refine V.NCond.mk ?_ | refine V.NIf.not_ ?_ | refine V.NIf.dec_ ?_ | refine V.a4 ?_ | refine V.a5 ?_ | refine V.NIf.mk (fun _ => ?_) (fun _ => ?_) | refine V.a7 ?_ | refine V.a8 ?_ | refine V.a9 ?_ | refine V.NBoth.mk ?_ ?_ | refine V.b1 ?_ | refine V.b2 ?_ | refine V.NTF.dec ?_ | refine V.b3 ?_ | refine V.b4 ?_ | (refine V.NDraw.any (by kernel_rfl) ?_) | fail)
  all_goals (conv => whnf)
  have hR : Pn.Right c t l ps n := ⟨j1 (by omega), j2 (by omega), j3 (by omega), j4 (by omega), j5 (by omega)⟩
  have l60 := F.checks_len (l := l) (by have := hR.kl; omega)
  refine V.NLoop.auto (fun (k : Nat) => [(31, .one (.val (.int .i64 k))), (13, .one (.ref 11))]) (fun (k : Nat) => [(11, .row 45 3 (Pn.dus c t ps n (l.take k)).length (ga encD (Pn.dus c t ps n (l.take k))))]) [] [] (fun (k : Nat) => l.length - k) (fun (k : Nat) => k ≤ l.length ∧ ∀ f ∈ l.take k, Pn.eF c t n f = 0) 0 ⟨by omega, by simp⟩ V.S_ V.S_ (fun _ => ⟨rfl, rfl⟩) ?_; (conv => whnf); refine ⟨⟨rfl, rfl⟩, ?_⟩
  rintro k ⟨hk, hJ⟩
  by_cases hlt : k < l.length
  · have hf : F.Ok (l.getD k default) := Pn.all_ok hR.kl _ (getD_mem hlt)
    obtain ⟨ht6, htw⟩ := Pn.tE_ok hR.kt
    obtain ⟨hp20, _⟩ := P.chks_ok hR.kp
    have qk := Pn.qF_ok hR.kt hR.kp hf
    have qd := Pn.d_yes qk
    have dl := Pn.dus_len c t ps n (l.take k)
    have ds := Pn.dus_snoc (c := c) (t := t) (ps := ps) (n := n) hlt
    rw [List.length_take] at dl
    obtain ⟨⟨_, _, _, hcl, hpa, _⟩, _⟩ := id hf
    have qv : Pn.dV (F.left (l.getD k default)) (ps.getD ((l.getD k default).pa - 1).toNat default) (t.getD (l.getD k default).cl.toNat default).ra = Pn.qF t ps (l.getD k default) := qd.2
    have qe : Pn.dE (F.left (l.getD k default)) (ps.getD ((l.getD k default).pa - 1).toNat default) (t.getD (l.getD k default).cl.toNat default).ra = 0 := qd.1
    repeat' ((conv => whnf); first | (refine NApp.one (en := encD) (l := Pn.dus c t ps n (l.take k)) (x := ⟨(l.getD k default).fr, (l.getD k default).to, Pn.dV (F.left (l.getD k default)) (ps.getD ((l.getD k default).pa - 1).toNat default) (t.getD (l.getD k default).cl.toNat default).ra⟩) (by simp; omega) (by simp; omega) ?_) | refine V.NCond.mk ?_ | refine V.NIf.not_ ?_ | refine V.NIf.dec_ ?_ | refine V.a4 ?_ | refine V.a5 ?_ | refine V.NIf.mk (fun _ => ?_) (fun _ => ?_) | refine V.a7 ?_ | refine V.a8 ?_ | refine V.a9 ?_ | refine V.NBoth.mk ?_ ?_ | refine V.b1 ?_ | refine V.b2 ?_ | refine V.NTF.dec ?_ | refine V.b3 ?_ | refine V.b4 ?_ | (refine NIdx.mk ⟨_, rfl, by omega, ?_⟩) | (refine NIdx.mk ⟨(l.getD k default).cl.toNat, by omega, by omega, ?_⟩) | (refine NIdx.mk ⟨((l.getD k default).pa - 1).toNat, by omega, by omega, ?_⟩) | ((first | refine V.Fn.k (v_agStage c (Pn.cl t (l.getD k default)) (l.getD k default) n hc) [0] rfl ?_ ?_ | refine V.Fn.q (v_agStage c (Pn.cl t (l.getD k default)) (l.getD k default) n hc) [0] rfl ?_ ?_ | refine V.Fn.a (v_agStage c (Pn.cl t (l.getD k default)) (l.getD k default) n hc) [0] rfl ?_ ?_); · exact V.D_) | (first | refine V.Fn.k0 (v_fleft (l.getD k default) hf) rfl ?_ | refine V.Fn.q0 (v_fleft (l.getD k default) hf) rfl ?_ | refine V.Fn.a0 (v_fleft (l.getD k default) hf) rfl ?_) | (first | refine V.Fn.k0 (v_daily _ _ _) rfl ?_ | refine V.Fn.q0 (v_daily _ _ _) rfl ?_ | refine V.Fn.a0 (v_daily _ _ _) rfl ?_) | (refine V.NDraw.any (by kernel_rfl) ?_) | fail)
    all_goals (conv => whnf)
    · exact V.NBack.at_ (k + 1) [] ⟨by omega, all_snoc hlt hJ (by assumption)⟩ (by omega) V.S_ rfl ⟨ObLe.as_ (ds.trans (by rw [Pn.du1_no (fun z => absurd (by assumption) z.1.1), List.append_nil])), trivial⟩ V.S_ V.S_
    · exact V.NBack.at_ (k + 1) [] ⟨by omega, all_snoc hlt hJ (by assumption)⟩ (by omega) V.S_ rfl ⟨ObLe.as_ (ds.trans (by rw [Pn.du1_no (fun z => absurd (by assumption) z.1.2), List.append_nil])), trivial⟩ V.S_ V.S_
    · rename_i g1 g2 g3 g4 g5
      exact V.NBack.at_ (k + 1) [(11, 14)] ⟨by omega, all_snoc hlt hJ (by assumption)⟩ (by omega) V.S_ rfl ⟨ObLe.as_ (ds.trans (by rw [Pn.du1_yes ⟨by assumption, by assumption⟩ (by rw [← qv]; exact g5), qv])), trivial⟩ V.S_ V.S_
    · rename_i g1 g2 g3 g4 g5
      exact V.NBack.at_ (k + 1) [] ⟨by omega, all_snoc hlt hJ (by assumption)⟩ (by omega) V.S_ rfl ⟨ObLe.as_ (ds.trans (by rw [Pn.du1_no (fun z => g5 (by rw [qv]; exact z.2)), List.append_nil])), trivial⟩ V.S_ V.S_
    · have e := fb_get (f := Pn.eF c t n) hlt hJ (by assumption)
      have y := Pn.y_bad (c := c) (t := t) (l := l) (ps := ps) (n := n) (Pn.yE_of hR) (by rw [e]; assumption)
      rw [y.1, y.2, e]
      (first | exact V.er 0 | exact V.er 1 | exact V.er 2 | exact V.er 3 | exact V.er 4 | exact V.er 5 | exact V.er 6 | exact V.er 7 | exact V.er 8 | exact V.er 9 | exact V.er 10 | exact V.er 11 | exact V.er 12 | exact V.er 13 | exact V.er 14 | exact V.er 15 | exact V.er 16 | exact V.er 17)
  obtain rfl : k = l.length := by omega
  have y := Pn.y_yes (c := c) (t := t) (l := l) (ps := ps) (n := n) (Pn.yE_of hR) (fb_end (by omega) hJ)
  rw [y.1, y.2]
  rw [show l.take l.length = l from List.take_length]
  repeat' ((conv => whnf); first | refine V.NCond.mk ?_ | refine V.NIf.not_ ?_ | refine V.NIf.dec_ ?_ | refine V.a4 ?_ | refine V.a5 ?_ | refine V.NIf.mk (fun _ => ?_) (fun _ => ?_) | refine V.a7 ?_ | refine V.a8 ?_ | refine V.a9 ?_ | refine V.NBoth.mk ?_ ?_ | refine V.b1 ?_ | refine V.b2 ?_ | refine V.NTF.dec ?_ | refine V.b3 ?_ | refine V.b4 ?_ | (refine V.NDraw.any (by kernel_rfl) ?_) | fail)
  all_goals (conv => whnf)
  (first | exact V.erf 0 | exact V.erf 1 | exact V.erf 2 | exact V.erf 3 | exact V.erf 4 | exact V.erf 5 | exact V.erf 6 | exact V.erf 7 | exact V.erf 8 | exact V.erf 9 | exact V.erf 10 | exact V.erf 11 | exact V.erf 12 | exact V.erf 13 | exact V.erf 14 | exact V.erf 15 | exact V.erf 16 | exact V.erf 17)
end Go.Proofs.Ytdeekpcfmgfmcaa

/- What a day costs, by the document: the walk. -/
namespace Go.Proofs.Ytdeekpcfmgfmcaa
open Go Go.RowKit V
set_option maxRecDepth 100000
set_option linter.unusedVariables false
end Go.Proofs.Ytdeekpcfmgfmcaa

/- Plain facts on books: wide sums, keys, totals. -/
namespace Go.Proofs.Ytdeekpcfmgfmcaa
set_option linter.unusedVariables false
set_option linter.unusedSimpArgs false
namespace Bk
/-! wide sums -/
def wadd (s : Int × Int) (n : Int) : Int × Int := (s.1 + (s.2 + n).tdiv 1152921504606846976, (s.2 + n).tmod 1152921504606846976)
def wst (l : List Int) : Int × Int := l.foldl wadd (0, 0)
theorem wst_snoc (l : List Int) (n : Int) : wst (l ++ [n]) = wadd (wst l) n := by unfold wst; rw [List.foldl_append]; rfl
theorem tdm (x : Int) : x.tdiv 1152921504606846976 * 1152921504606846976 + x.tmod 1152921504606846976 = x ∧ -1152921504606846976 < x.tmod 1152921504606846976 ∧ x.tmod 1152921504606846976 < 1152921504606846976 ∧ (0 ≤ x → 0 ≤ x.tmod 1152921504606846976) ∧ (x ≤ 0 → x.tmod 1152921504606846976 ≤ 0) := by
  refine ⟨by have := Int.mul_tdiv_add_tmod x 1152921504606846976; omega, ?_, ?_, fun h => Int.tmod_nonneg _ h, fun h => ?_⟩
  · have := Int.lt_tmod_of_pos x (show (0 : Int) < 1152921504606846976 by decide); omega
  · exact Int.tmod_lt_of_pos x (by decide)
  · have := Int.tmod_nonneg (a := -x) 1152921504606846976 (by omega)
    rw [Int.neg_tmod] at this
    omega
theorem wadd_spec {s : Int × Int} {n : Int} (h1 : -1152921504606846976 < s.2 ∧ s.2 < 1152921504606846976) (hn : M.Amt n) : (wadd s n).1 * 1152921504606846976 + (wadd s n).2 = s.1 * 1152921504606846976 + s.2 + n ∧ (-1152921504606846976 < (wadd s n).2 ∧ (wadd s n).2 < 1152921504606846976) ∧ s.1 - 1 ≤ (wadd s n).1 ∧ (wadd s n).1 ≤ s.1 + 1 := by
  have d := tdm (s.2 + n)
  unfold M.Amt at hn
  unfold wadd
  simp only
  generalize (s.2 + n).tdiv 1152921504606846976 = q at *
  generalize (s.2 + n).tmod 1152921504606846976 = r at *
  omega
theorem wfold : ∀ (l : List Int) (s : Int × Int), (-1152921504606846976 < s.2 ∧ s.2 < 1152921504606846976) → (∀ a ∈ l, M.Amt a) → (l.foldl wadd s).1 * 1152921504606846976 + (l.foldl wadd s).2 = s.1 * 1152921504606846976 + s.2 + M.sum l ∧ (-1152921504606846976 < (l.foldl wadd s).2 ∧ (l.foldl wadd s).2 < 1152921504606846976) ∧ s.1 - l.length ≤ (l.foldl wadd s).1 ∧ (l.foldl wadd s).1 ≤ s.1 + l.length
  | [], s, h, _ => by simp [M.sum]; omega
  | a :: r, s, h, ha => by
    obtain ⟨w1, w2, w3⟩ := wadd_spec h (ha a (by simp))
    obtain ⟨i1, i2, i3⟩ := wfold r (wadd s a) w2 fun x hx => ha x (by simp [hx])
    simp only [List.foldl_cons, M.sum, List.length_cons]
    refine ⟨by omega, i2, by omega, by omega⟩
theorem wst_spec (l : List Int) (h : ∀ a ∈ l, M.Amt a) : (wst l).1 * 1152921504606846976 + (wst l).2 = M.sum l ∧ (-1152921504606846976 < (wst l).2 ∧ (wst l).2 < 1152921504606846976) ∧ -(l.length : Int) ≤ (wst l).1 ∧ (wst l).1 ≤ l.length := by
  obtain ⟨a, b, c⟩ := wfold l (0, 0) (by decide) h
  refine ⟨by unfold wst; simpa using a, b, ?_⟩
  unfold wst
  simp only at c
  omega
/-! postings -/
def Right (p : Po) : Prop := ((0 ≤ p.ac ∧ p.ac ≤ 100) ∧ (0 ≤ p.ut ∧ p.ut ≤ 20)) ∧ M.Amt p.am ∧ p.am ≠ 0
instance (p : Po) : Decidable (Right p) := by unfold Right M.Amt; exact inferInstance
/-- amounts of a unit -/
def amu (l : List Po) (u : Nat) : List Int := (l.filter fun p => decide (p.ut = (u : Int))).map (·.am)
theorem amu_snoc (l : List Po) (p : Po) (u : Nat) : amu (l ++ [p]) u = amu l u ++ if p.ut = (u : Int) then [p.am] else [] := by
  unfold amu
  rw [List.filter_append, List.map_append]
  congr 1
  by_cases h : p.ut = (u : Int)
  · rw [if_pos h]; simp [h]
  · rw [if_neg h]; simp [h]
theorem amu_amt {l : List Po} (h : ∀ p ∈ l, Right p) (u : Nat) : ∀ a ∈ amu l u, M.Amt a := fun a ha => by
  obtain ⟨p, hp, rfl⟩ := List.mem_map.1 ha
  exact (h p (List.mem_filter.1 hp).1).2.1
theorem amu_len (l : List Po) (u : Nat) : (amu l u).length ≤ l.length := by
  unfold amu
  rw [List.length_map]
  exact List.length_filter_le _ _
def even (l : List Po) : Bool := (List.range 21).all fun u => decide (M.sum (amu l u) = 0)
theorem even_iff (l : List Po) : even l = true ↔ ∀ u, u < 21 → M.sum (amu l u) = 0 := by
  unfold even
  rw [List.all_eq_true]
  exact ⟨fun h u hu => by simpa using h u (List.mem_range.2 hu), fun h u hu => by simpa using h u (List.mem_range.1 hu)⟩
def bad (p : Po) : Bool := !decide (Right p)
def chk (l : List Po) : Int := if l.length = 0 then 1 else if 60 < l.length then 2 else if 0 ≤ ixf bad l then 3 else if even l = true then 0 else 4
theorem chk_cases (l : List Po) : (l.length = 0 ∧ chk l = 1) ∨ (60 < l.length ∧ chk l = 2) ∨ ((0 < l.length ∧ l.length ≤ 60) ∧ 0 ≤ ixf bad l ∧ chk l = 3) ∨ ((0 < l.length ∧ l.length ≤ 60) ∧ ixf bad l < 0 ∧ (∀ p ∈ l, Right p) ∧ even l = false ∧ chk l = 4) ∨ ((0 < l.length ∧ l.length ≤ 60) ∧ ixf bad l < 0 ∧ (∀ p ∈ l, Right p) ∧ even l = true ∧ chk l = 0) := by
  unfold chk
  by_cases h1 : l.length = 0
  · rw [if_pos h1]; exact .inl ⟨h1, rfl⟩
  rw [if_neg h1]
  by_cases h2 : 60 < l.length
  · rw [if_pos h2]; exact .inr (.inl ⟨h2, rfl⟩)
  rw [if_neg h2]
  by_cases h3 : 0 ≤ ixf bad l
  · rw [if_pos h3]; exact .inr (.inr (.inl ⟨by omega, h3, rfl⟩))
  rw [if_neg h3]
  have hr : ∀ p ∈ l, Right p := fun p hp => by
    rcases ixf_cases bad l with ⟨_, a⟩ | ⟨k, e, _⟩
    · have := a p hp
      unfold bad at this
      simpa using this
    · omega
  cases h4 : even l
  · rw [if_neg (by decide)]; exact .inr (.inr (.inr (.inl ⟨by omega, by omega, hr, rfl, rfl⟩)))
  · rw [if_pos rfl]; exact .inr (.inr (.inr (.inr ⟨by omega, by omega, hr, rfl, rfl⟩)))
/-- the order of lines -/
def lx (p q : Po) : Bool := decide (p.ac < q.ac ∨ (p.ac = q.ac ∧ p.ut < q.ut))
def eAt (b : List Po) (k : Nat) : Int := if ¬ Right (b.getD k default) then 3 else if 0 < k ∧ lx (b.getD (k - 1) default) (b.getD k default) = false then 4 else 0
def lines (b : List Po) : Int := if 400 < b.length then 2 else if Ca.fe (eAt b) b.length ≠ 0 then Ca.fe (eAt b) b.length else if even b = true then 0 else 4
structure Lines (b : List Po) : Prop where
  le : b.length ≤ 400
  r : ∀ p ∈ b, Right p
  s : b.Pairwise fun p q => lx p q = true
theorem lx_trans {p q r : Po} (h1 : lx p q = true) (h2 : lx q r = true) : lx p r = true := by
  unfold lx at *
  simp only [decide_eq_true_eq] at *
  omega
theorem fe_ok {b : List Po} (n : b.length ≤ 400) (h : Ca.fe (eAt b) b.length = 0) : Lines b := by
  have a := Ca.fe_ok h
  have e : ∀ k, k < b.length → Right (b.getD k default) ∧ (0 < k → lx (b.getD (k - 1) default) (b.getD k default) = true) := fun k hk => by
    have := a k hk
    unfold eAt at this
    split at this
    · omega
    · rename_i q
      split at this
      · omega
      · rename_i r
        refine ⟨Classical.not_not.1 q, fun h0 => ?_⟩
        cases z : lx (b.getD (k - 1) default) (b.getD k default)
        · exact absurd ⟨h0, z⟩ r
        · rfl
  refine ⟨n, fun p hp => ?_, List.pairwise_iff_getElem.2 fun i j hi hj hij => ?_⟩
  · obtain ⟨i, hi, rfl⟩ := List.getElem_of_mem hp
    rw [← getD_at hi]
    exact (e i hi).1
  · have st : ∀ m, i < m → m < b.length → lx (b.getD i default) (b.getD m default) = true := by
      intro m
      induction m with
      | zero => intro h; omega
      | succ m ih =>
        intro h1 h2
        have h3 := (e (m + 1) h2).2 (by omega)
        rw [Nat.add_sub_cancel] at h3
        by_cases z : i = m
        · subst z; exact h3
        · exact lx_trans (ih (by omega) (by omega)) h3
    have := st j hij hj
    rwa [getD_at hi, getD_at hj] at this
theorem lines_cases (b : List Po) : (400 < b.length ∧ lines b = 2) ∨ (b.length ≤ 400 ∧ Ca.fe (eAt b) b.length ≠ 0 ∧ lines b = Ca.fe (eAt b) b.length) ∨ (Ca.fe (eAt b) b.length = 0 ∧ Lines b ∧ even b = false ∧ lines b = 4) ∨ (Ca.fe (eAt b) b.length = 0 ∧ Lines b ∧ even b = true ∧ lines b = 0) := by
  unfold lines
  by_cases h1 : 400 < b.length
  · rw [if_pos h1]; exact .inl ⟨h1, rfl⟩
  rw [if_neg h1]
  by_cases h2 : Ca.fe (eAt b) b.length = 0
  · rw [if_neg (fun z => z h2)]
    have l := fe_ok (by omega) h2
    cases h3 : even b
    · rw [if_neg (by decide)]; exact .inr (.inr (.inl ⟨h2, l, rfl, rfl⟩))
    · rw [if_pos rfl]; exact .inr (.inr (.inr ⟨h2, l, rfl, rfl⟩))
  · rw [if_pos h2]; exact .inr (.inl ⟨by omega, h2, rfl⟩)
theorem lines_0 {b : List Po} (h : lines b = 0) : Lines b ∧ even b = true := by
  rcases lines_cases b with ⟨_, e⟩ | ⟨_, a, e⟩ | ⟨_, _, _, e⟩ | ⟨_, l, e, _⟩
  · omega
  · omega
  · omega
  · exact ⟨l, e⟩
theorem chk_0 {l : List Po} (h : chk l = 0) : (0 < l.length ∧ l.length ≤ 60) ∧ (∀ p ∈ l, Right p) ∧ even l = true := by
  rcases chk_cases l with ⟨_, e⟩ | ⟨_, e⟩ | ⟨_, _, e⟩ | ⟨_, _, _, _, e⟩ | ⟨a, _, b, c, _⟩
  · omega
  · omega
  · omega
  · omega
  · exact ⟨a, b, c⟩
theorem chk_is {l : List Po} (n : 0 < l.length ∧ l.length ≤ 60) (r : ∀ p ∈ l, Right p) (e : even l = true) : chk l = 0 := by
  rcases chk_cases l with ⟨a, _⟩ | ⟨a, _⟩ | ⟨_, a, _⟩ | ⟨_, _, _, a, _⟩ | ⟨_, _, _, _, a⟩
  · omega
  · omega
  · exfalso
    rcases ixf_cases bad l with ⟨e, _⟩ | ⟨k, _, hk, hp, _⟩
    · omega
    · have := r _ (getD_mem hk)
      unfold bad at hp
      simp only [Bool.not_eq_true', decide_eq_false_iff_not] at hp
      exact hp this
  · rw [e] at a; cases a
  · exact a
end Bk
end Go.Proofs.Ytdeekpcfmgfmcaa

/- Plain facts on how parties stand. -/
namespace Go.Proofs.Ytdeekpcfmgfmcaa
set_option linter.unusedVariables false
set_option linter.unusedSimpArgs false
namespace Nt
/-- what a party has below and above others -/
def one (p : Nat) (d : Du) : List Int := (if d.fr = (p : Int) then [-d.am] else []) ++ (if d.to = (p : Int) then [d.am] else [])
def part (l : List Du) (p : Nat) : List Int := l.flatMap (one p)
theorem part_snoc (l : List Du) (d : Du) (p : Nat) : part (l ++ [d]) p = part l p ++ one p d := by
  unfold part; simp
theorem part_take {l : List Du} {k : Nat} (h : k < l.length) (p : Nat) : part (l.take (k + 1)) p = part (l.take k) p ++ one p (l.getD k default) := by
  rw [List.take_succ_eq_append_getElem h, part_snoc, getD_at h]
theorem one_len (p : Nat) (d : Du) : (one p d).length ≤ 2 := by
  unfold one; split <;> split <;> simp
theorem part_len : ∀ (l : List Du) (p : Nat), (part l p).length ≤ 2 * l.length
  | [], _ => by simp [part]
  | d :: r, p => by
    have := part_len r p
    have := one_len p d
    have e : part (d :: r) p = one p d ++ part r p := rfl
    rw [e, List.length_append, List.length_cons]
    omega
theorem part_mem {l : List Du} {p : Nat} {a : Int} (h : a ∈ part l p) : ∃ d ∈ l, a = d.am ∨ a = -d.am := by
  unfold part at h
  obtain ⟨d, hd, ha⟩ := List.mem_flatMap.1 h
  refine ⟨d, hd, ?_⟩
  unfold one at ha
  rcases List.mem_append.1 ha with h | h <;> split at h <;> simp at h
  · exact .inr h
  · exact .inl h
theorem part_amt {l : List Du} (h : ∀ d ∈ l, N.ck1 d = 0) {p : Nat} : ∀ a ∈ part l p, M.Amt a := fun a ha => by
  obtain ⟨d, hd, e⟩ := part_mem ha
  have := N.ck_ok (h d hd)
  unfold M.Amt
  omega
/-- the sum that is told, or none -/
def tov (l : List Int) : Int := if (Bk.wst l).1 < -2 ∨ 2 < (Bk.wst l).1 then 0 else M.sum l
theorem tov_amt {l : List Int} (h : ∀ a ∈ l, M.Amt a) (s : M.Amt (M.sum l)) : tov l = M.sum l := by
  obtain ⟨w1, w2, w3⟩ := Bk.wst_spec l h
  unfold M.Amt at s
  exact if_neg (by omega)
def sums (l : List Du) (k : Nat) : List Int := (List.range k).map fun p => M.sum (part l p)
def Wide (l : List Du) : Prop := ∀ p, p < 31 → M.Amt (M.sum (part l p))
instance (a : Int) : Decidable (M.Amt a) := by unfold M.Amt; exact inferInstance
instance (l : List Du) : Decidable (Wide l) := by unfold Wide; exact inferInstance
def stE (l : List Du) : Int := if N.chk l ≠ 0 then N.chk l else if Wide l then 0 else 8
def st (l : List Du) : List Int := if stE l = 0 then sums l 31 else []
theorem stE_ok {l : List Du} (h : N.chk l = 0) (w : Wide l) : stE l = 0 := (if_neg (by omega)).trans (if_pos w)
theorem stE_no {l : List Du} (h : N.chk l = 0) (w : ¬ Wide l) : stE l = 8 := (if_neg (by omega)).trans (if_neg w)
/-- between two parties, by the document -/
def two (p q : Int) (d : Du) : List Int := (if d.to = p ∧ (q < 0 ∨ d.fr = q) then [d.am] else []) ++ (if d.fr = p ∧ (q < 0 ∨ d.to = q) then [-d.am] else [])
def due (l : List Du) (p q : Int) : List Int := l.flatMap (two p q)
theorem due_snoc (l : List Du) (d : Du) (p q : Int) : due (l ++ [d]) p q = due l p q ++ two p q d := by
  unfold due; simp
theorem due_take {l : List Du} {k : Nat} (h : k < l.length) (p q : Int) : due (l.take (k + 1)) p q = due (l.take k) p q ++ two p q (l.getD k default) := by
  rw [List.take_succ_eq_append_getElem h, due_snoc, getD_at h]
theorem two_len (p q : Int) (d : Du) : (two p q d).length ≤ 2 := by
  unfold two; split <;> split <;> simp
theorem due_len : ∀ (l : List Du) (p q : Int), (due l p q).length ≤ 2 * l.length
  | [], _, _ => by simp [due]
  | d :: r, p, q => by
    have := due_len r p q
    have := two_len p q d
    have e : due (d :: r) p q = two p q d ++ due r p q := rfl
    rw [e, List.length_append, List.length_cons]
    omega
theorem due_mem {l : List Du} {p q : Int} {a : Int} (h : a ∈ due l p q) : ∃ d ∈ l, a = d.am ∨ a = -d.am := by
  unfold due at h
  obtain ⟨d, hd, ha⟩ := List.mem_flatMap.1 h
  refine ⟨d, hd, ?_⟩
  unfold two at ha
  rcases List.mem_append.1 ha with h | h <;> split at h <;> simp at h
  · exact .inl h
  · exact .inr h
theorem due_amt {l : List Du} (h : ∀ d ∈ l, N.ck1 d = 0) {p q : Int} : ∀ a ∈ due l p q, M.Amt a := fun a ha => by
  obtain ⟨d, hd, e⟩ := due_mem ha
  have := N.ck_ok (h d hd)
  unfold M.Amt
  omega
theorem due_part {l : List Du} (h : ∀ d ∈ l, N.ck1 d = 0) (p : Nat) : due l p (-1) = part l p := by
  unfold due part
  rw [List.flatMap_def, List.flatMap_def]
  refine congrArg List.flatten (List.map_congr_left fun d hd => ?_)
  have := N.ck_ok (h d hd)
  unfold two one
  by_cases e : d.to = (p : Int)
  · rw [if_pos ⟨e, by omega⟩, if_neg (by omega), if_neg (by omega), if_pos e]
    rfl
  · by_cases e2 : d.fr = (p : Int)
    · rw [if_neg (by omega), if_pos ⟨e2, by omega⟩, if_pos e2, if_neg e]
      rfl
    · rw [if_neg (by omega), if_neg (by omega), if_neg e2, if_neg e]
theorem sums_snoc (l : List Du) (k : Nat) : sums l (k + 1) = sums l k ++ [M.sum (part l k)] := by
  unfold sums; rw [List.range_succ, List.map_append]; rfl
theorem sof_amt {l : List Int} (h : M.Amt (M.sum l)) : M.sofV l = M.sum l := by
  unfold M.Amt at h
  exact if_pos (by omega)
end Nt
end Go.Proofs.Ytdeekpcfmgfmcaa

/- How parties stand: the walk. -/
namespace Go.Proofs.Ytdeekpcfmgfmcaa.V
open Go Go.RowKit
set_option linter.unusedVariables false
theorem Redo.refl (sz : Nat) (env : Env) (obs : Obs) (nx : Nat) : Redo sz env obs nx env obs nx := ⟨fun _ ρ _ _ h1 h2 => ⟨ρ, fun _ _ h => h, h1, h2⟩⟩
/-- a row of slices: a row is seen by itself -/
theorem Redo.out {sz : Nat} {env env' : Env} {obs obs' : Obs} {nx nx' : Nat} (i k : Nat) {t e s n m : Nat} {vs : Nat → Value} {xs : Nat → Option (Nat × (Nat → List Value))} {g : Nat → List Value} (ho : fnd obs i = some (.rws t e s n vs xs)) (hk : k < n) (hx : xs k = some (m, g))
    (h : Redo sz env ((nx, .rov (vs k) e s m g) :: (i, .rws t e s n vs (putX xs k none)) :: obs) (nx + 1) env' obs' nx') : Redo sz env obs nx env' obs' nx' :=
  ⟨fun B ρ w a hE hC => by
    obtain ⟨c, _⟩ := hC.out ho hk hx (.inl rfl)
    have hX : Ext ρ (upd ρ nx (vs k)) := ext_upd (hC.new nx (Nat.le_refl _))
    obtain ⟨ρ', h1, h2, h3⟩ := h.h B _ w a (hE.ext hX) c
    exact ⟨ρ', fun i y q => h1 i y (hX i y q), h2, h3⟩⟩
theorem Svs.see_ {ρ : Rho} {nx : Nat} {v : Value} (hx : ρ nx = none) (ho : v.oneCell' = true) : ∀ {args : List SV} {xs : List Value} {j : Nat}, args[j]? = some (.one (.val v)) → Svs ρ args xs → Svs (upd ρ nx v) (args.set j (.one (.ref nx))) xs
  | [], _, j, h, _ => by simp at h
  | a :: l, _, 0, h, ⟨u, r, e, ha, hr⟩ => by
    have ea : a = .one (.val v) := by simpa using h
    subst ea
    have eu : u = v := ha
    subst eu
    exact ⟨_, r, e, ⟨upd_same _ _ _, ho⟩, Svs.ext (ext_upd hx) hr⟩
  | a :: l, _, j + 1, h, ⟨u, r, e, ha, hr⟩ => ⟨u, r, e, SV.is1_ext (ext_upd hx) ha, Svs.see_ hx ho (by simpa using h) hr⟩
/-- a call that is handed a row out of a row of slices -/
theorem NCall.see {P : Program} {f : FuncId} {args : List SV} {obs : Obs} {nx : Nat} {K : SV → Obs → Nat → Prop} (j i k : Nat) {t e s n m : Nat} {vs : Nat → Value} {xs : Nat → Option (Nat × (Nat → List Value))} {g : Nat → List Value} (ho : fnd obs i = some (.rws t e s n vs xs)) (hk : k < n) (hx : xs k = some (m, g))
    (ea : args[j]? = some (.one (.val (vs k)))) (h : NCall P f (args.set j (.one (.ref nx))) ((nx, .row e s m g) :: (i, .rws t e s n vs (putX xs k none)) :: obs) (nx + 1) K) : NCall P f args obs nx K := by
  refine ⟨h.b, fun B ρ w ys hC ha => ?_⟩
  obtain ⟨c, h1⟩ := hC.out ho hk hx (.inr rfl)
  have hx := hC.new nx (Nat.le_refl _)
  refine (h.h B _ w ys c (ha.see_ hx h1 ea)).mono ?_
  rintro e w' ⟨v, obs', nx', ρ', x, hK, hE, r⟩
  exact ⟨v, obs', nx', ρ', x, hK, fun i y hy => hE i y (by have : i ≠ nx := fun q => (by rw [q, hx] at hy; cases hy); simpa [upd, this] using hy), r⟩
end Go.Proofs.Ytdeekpcfmgfmcaa.V
namespace Go.Proofs.Ytdeekpcfmgfmcaa
open Go Go.RowKit V
set_option maxRecDepth 100000
set_option linter.unusedVariables false
theorem v_ntotal (l : List Int) (hn : l.length ≤ 100000) (hJ : ∀ a ∈ l, M.Amt a) : V.Fn Try.prog 96 [.arr 1 l.length (ga e1 l)] [.one (.ref 0)] (.tuple #[.int .i64 (Nt.tov l), .bool (decide (M.Amt (M.sum l)))]) := by
  refine V.Fn.mk_ V.Tok V.mixed Try.func96 rfl Try.ntmps96 (by kernel_rfl) rfl rfl ?_
  repeat' ((conv => whnf); first | refine V.NCond.mk ?_ | refine V.NIf.not_ ?_ | refine V.NIf.dec_ ?_ | refine V.a4 ?_ | refine V.a5 ?_ | refine V.NIf.mk (fun _ => ?_) (fun _ => ?_) | refine V.a7 ?_ | refine V.a8 ?_ | refine V.a9 ?_ | refine V.NBoth.mk ?_ ?_ | refine V.b1 ?_ | refine V.b2 ?_ | refine V.NTF.dec ?_ | refine V.b3 ?_ | refine V.b4 ?_ | (refine V.NDraw.any (by kernel_rfl) ?_) | fail)
  refine V.NLoop.auto (fun (k : Nat) => [(10, .one (.val (.int .i64 k))), (4, .one (.val (.int .i64 (Bk.wst (l.take k)).2))), (5, .one (.val (.int .i64 (Bk.wst (l.take k)).1)))]) (fun (k : Nat) => []) [] [] (fun (k : Nat) => l.length - k) (fun (k : Nat) => k ≤ l.length) 0 (Nat.zero_le _) V.S_ V.S_ (fun _ => ⟨rfl, rfl⟩) ?_; (conv => whnf); refine ⟨⟨rfl, rfl⟩, ?_⟩
  rintro k hk
  obtain ⟨w1, w2, w3, w4⟩ := Bk.wst_spec (l.take k) (fun a ha => hJ a (List.mem_of_mem_take ha))
  rw [List.length_take] at w3 w4
  have am : M.Amt (M.sum l) ↔ -1152921504606846976 ≤ M.sum l ∧ M.sum l ≤ 1152921504606846976 := Iff.rfl
  have ckn := fun n => @M.chk_yes n
  have ckz := fun n (h : M.chk n = 0) => Classical.byContradiction fun (z : ¬ M.Amt n) => by rw [M.chk_no z] at h; omega
  by_cases hlt : k < l.length
  · have hd := Bk.tdm ((Bk.wst (l.take k)).2 + l.getD k default)
    have aj := hJ _ (getD_mem hlt)
    unfold M.Amt at aj
    have ws : Bk.wst (l.take (k + 1)) = ((Bk.wst (l.take k)).1 + ((Bk.wst (l.take k)).2 + l.getD k default).tdiv 1152921504606846976, ((Bk.wst (l.take k)).2 + l.getD k default).tmod 1152921504606846976) := by rw [List.take_succ_eq_append_getElem hlt, Bk.wst_snoc, getD_at hlt]; rfl
    repeat' ((conv => whnf); first | refine V.NCond.mk ?_ | refine V.NIf.not_ ?_ | refine V.NIf.dec_ ?_ | refine V.a4 ?_ | refine V.a5 ?_ | refine V.NIf.mk (fun _ => ?_) (fun _ => ?_) | refine V.a7 ?_ | refine V.a8 ?_ | refine V.a9 ?_ | refine V.NBoth.mk ?_ ?_ | refine V.b1 ?_ | refine V.b2 ?_ | refine V.NTF.dec ?_ | refine V.b3 ?_ | refine V.b4 ?_ | (refine NIdx.mk ⟨_, rfl, by omega, ?_⟩) | (refine V.NWrap.ok (by omega) (by omega) ?_) | (refine NQuo.ok (by decide) (by omega) (by omega) ?_) | (refine NRem.mk (by decide) ?_) | (refine V.NDraw.any (by kernel_rfl) ?_) | fail)
    all_goals (conv => whnf)
    exact V.NBack.at_ (k + 1) [] (by omega) (by omega) ⟨rfl, by rw [ws]; rfl, by rw [ws]; rfl, trivial⟩ rfl V.S_ V.S_ V.S_
  obtain rfl : k = l.length := by omega
  have eT : l.take l.length = l := List.take_length
  generalize l.take l.length = T at *
  replace eT := eT.symm
  subst eT
  have no : M.chk ((Bk.wst l).2 + (Bk.wst l).1 * 1152921504606846976) = 0 ↔ M.Amt (M.sum l) := by
    rw [show (Bk.wst l).2 + (Bk.wst l).1 * 1152921504606846976 = M.sum l by omega]
    exact ⟨fun h => am.2 (ckz _ h), fun h => ckn _ h⟩
  repeat' ((conv => whnf); first | refine V.NCond.mk ?_ | refine V.NIf.not_ ?_ | refine V.NIf.dec_ ?_ | refine V.a4 ?_ | refine V.a5 ?_ | refine V.NIf.mk (fun _ => ?_) (fun _ => ?_) | refine V.a7 ?_ | refine V.a8 ?_ | refine V.a9 ?_ | refine V.NBoth.mk ?_ ?_ | refine V.b1 ?_ | refine V.b2 ?_ | refine V.NTF.dec ?_ | refine V.b3 ?_ | refine V.b4 ?_ | (refine V.NWrap.ok (by omega) (by omega) ?_) | (first | refine V.Fn.k0 (v_check _) rfl ?_ | refine V.Fn.q0 (v_check _) rfl ?_ | refine V.Fn.a0 (v_check _) rfl ?_) | (refine V.NDraw.any (by kernel_rfl) ?_) | fail)
  all_goals (conv => whnf)
  · exact ⟨V.fin1 (if_pos (by omega)), congrArg Value.bool (decide_eq_false fun h => by have := am.1 h; omega).symm, trivial⟩
  · exact ⟨V.fin1 (if_pos (by omega)), congrArg Value.bool (decide_eq_false fun h => by have := am.1 h; omega).symm, trivial⟩
  · exact ⟨V.fin1 ((if_neg (by omega)).trans (by omega)), ⟨_, rfl, by rw [no, decide_eq_true_iff]⟩, trivial⟩
end Go.Proofs.Ytdeekpcfmgfmcaa

/- How parties stand: the walk. -/
namespace Go.Proofs.Ytdeekpcfmgfmcaa
open Go Go.RowKit V
set_option maxRecDepth 100000
set_option linter.unusedVariables false
theorem nilAt {n p : Nat} {v : Value} (h : p < n) : List.take 1 (List.drop (p * 1) (List.replicate n v)) = [v] := by
  rw [Nat.mul_one, List.drop_replicate, List.take_replicate, show min 1 (n - p) = 1 by omega]; rfl
theorem rwsStep {l : List Du} {k f t : Nat} (hlt : k < l.length) (hf : (l.getD k default).fr = f) (ht : (l.getD k default).to = t) (hne : t ≠ f) {p m : Nat} {g' : Nat → List Value} (h : some ((Nt.part (l.take (k + 1)) p).length, ga e1 (Nt.part (l.take (k + 1)) p)) = some (m, g')) :
    ∃ g, putX (putX (putX (putX (fun p => some ((Nt.part (l.take k) p).length, ga e1 (Nt.part (l.take k) p))) f none) t none) f (some ((Nt.part (l.take k) f ++ [0 - (l.getD k default).am]).length, ga e1 (Nt.part (l.take k) f ++ [0 - (l.getD k default).am])))) t (some ((Nt.part (l.take k) t ++ [(l.getD k default).am]).length, ga e1 (Nt.part (l.take k) t ++ [(l.getD k default).am]))) p = some (m, g) ∧ ∀ j, j < m → g j = g' j := by
  refine ⟨g', ?_, fun _ _ => rfl⟩
  rw [← h, Nt.part_take hlt]
  unfold putX
  by_cases e : p = t
  · subst e
    rw [if_pos rfl, show Nt.one p (l.getD k default) = [(l.getD k default).am] by unfold Nt.one; rw [if_neg (by omega), if_pos ht]; rfl]
  · rw [if_neg e]
    by_cases e2 : p = f
    · subst e2
      rw [if_pos rfl, show Nt.one p (l.getD k default) = [0 - (l.getD k default).am] by unfold Nt.one; rw [if_pos hf, if_neg (by omega), Int.zero_sub]; rfl]
    · rw [if_neg e2, if_neg e, if_neg e2, show Nt.one p (l.getD k default) = [] by unfold Nt.one; rw [if_neg (by omega), if_neg (by omega)]; rfl, List.append_nil]
theorem valsTo_get (vs : Nat → Value) : ∀ (n k p : Nat), p < n → (valsTo vs k n)[p]? = some (.val (vs (k + p)))
  | 0, _, _, h => absurd h (Nat.not_lt_zero _)
  | n + 1, k, 0, _ => rfl
  | n + 1, k, p + 1, h => by
    show (valsTo vs (k + 1) n)[p]? = _
    rw [valsTo_get vs n (k + 1) p (by omega), show k + 1 + p = k + (p + 1) by omega]
theorem rwsOut {k p m : Nat} {Y : Nat → Nat × (Nat → List Value)} {g : Nat → List Value} (h : (if p < k + 1 then none else some (Y p)) = some (m, g)) : ∃ g', putX (fun p => if p < k then none else some (Y p)) k none p = some (m, g') ∧ ∀ j, j < m → g' j = g j := by
  split at h
  · cases h
  · refine ⟨g, ?_, fun _ _ => rfl⟩
    unfold putX
    rw [if_neg (by omega)]
    exact (if_neg (by omega)).trans h
theorem vals0 (vs : Nat → Value) {n p : Nat} (h : p < n) : (valsTo vs 0 n)[p]? = some (.val (vs p)) := by rw [valsTo_get vs n 0 p h, Nat.zero_add]
set_option maxHeartbeats 4000000 in
theorem v_stand (l : List Du) (hn : l.length ≤ 9223372036854775807) : V.FnR Try.prog 62 [.arr 3 l.length (ga encD l)] [.one (.ref 0)] (.tup [.one (.ref 1), .one (.val (.int .i64 (Nt.stE l)))]) [.row 3 1 (Nt.st l).length (ga e1 (Nt.st l))] := by
  refine V.FnR.mk_ V.Tok V.mixed Try.func62 rfl Try.ntmps62 (by kernel_rfl) rfl rfl rfl rfl ?_
  repeat' ((conv => whnf); first | refine V.NCond.mk ?_ | refine V.NIf.not_ ?_ | refine V.NIf.dec_ ?_ | refine V.a4 ?_ | refine V.a5 ?_ | refine V.NIf.mk (fun _ => ?_) (fun _ => ?_) | refine V.a7 ?_ | refine V.a8 ?_ | refine V.a9 ?_ | refine V.NBoth.mk ?_ ?_ | refine V.b1 ?_ | refine V.b2 ?_ | refine V.NTF.dec ?_ | refine V.b3 ?_ | refine V.b4 ?_ | ((first | refine V.Fn.k (v_ncheck _ hn) [0] rfl ?_ ?_ | refine V.Fn.q (v_ncheck _ hn) [0] rfl ?_ ?_ | refine V.Fn.a (v_ncheck _ hn) [0] rfl ?_ ?_); · exact V.D_) | (refine V.NDraw.any (by kernel_rfl) ?_) | fail)
  all_goals (conv => whnf)
  rotate_left
  · have e : Nt.stE l = N.chk l := if_pos (by omega)
    rw [show Nt.st l = [] from if_neg (by omega), e]
    (first | exact V.er 0 | exact V.er 1 | exact V.er 2 | exact V.er 3 | exact V.er 4 | exact V.er 5 | exact V.er 6 | exact V.er 7 | exact V.er 8 | exact V.er 9 | exact V.er 10 | exact V.er 11 | exact V.er 12 | exact V.er 13 | exact V.er 14 | exact V.er 15 | exact V.er 16 | exact V.er 17)
  have h0 : N.chk l = 0 := by omega
  obtain ⟨h60, hck⟩ := N.chk_ok h0
  refine V.NLoop.auto (fun (⟨k, vs⟩ : Nat × (Nat → Value)) => [(20, .one (.val (.int .i64 k)))]) (fun (⟨k, vs⟩ : Nat × (Nat → Value)) => [(2, .rws 123 3 1 31 vs fun p => some ((Nt.part (l.take k) p).length, ga e1 (Nt.part (l.take k) p)))]) [] [] (fun (⟨k, vs⟩ : Nat × (Nat → Value)) => l.length - k) (fun (⟨k, vs⟩ : Nat × (Nat → Value)) => k ≤ l.length) (0, fun _ => .slice none 0 0) (Nat.zero_le _) V.S_ (by (conv => whnf); exact ⟨⟨rfl, rfl, rfl, fun p hp => ⟨nilAt (n := 31) hp, fun m g h => ⟨rfl, (Prod.mk.inj (Option.some.inj h)).1.symm⟩⟩⟩, trivial⟩) (fun _ => ⟨rfl, rfl⟩) ?_; (conv => whnf); refine ⟨⟨rfl, rfl⟩, ?_⟩
  rintro ⟨k, vs⟩ hk
  replace hk : k ≤ l.length := hk
  by_cases hlt : k < l.length
  · have ok := N.ck_ok (hck _ (getD_mem hlt))
    obtain ⟨f, hf⟩ : ∃ f : Nat, (l.getD k default).fr = f := ⟨_, (Int.toNat_of_nonneg (by omega)).symm⟩
    obtain ⟨t, ht⟩ : ∃ t : Nat, (l.getD k default).to = t := ⟨_, (Int.toNat_of_nonneg (by omega)).symm⟩
    have hne : t ≠ f := fun e => by omega
    have l1 := Nt.part_len (l.take k) f
    have l2 := Nt.part_len (l.take k) t
    rw [List.length_take] at l1 l2
    repeat' ((conv => whnf); first | (refine NDraw.preR (by kernel_rfl) (Redo.out 2 f rfl (by omega) rfl (Redo.out 2 t rfl (by omega) (if_neg hne) (Redo.refl _ _ _ _))) ?_) | refine V.NCond.mk ?_ | refine V.NIf.not_ ?_ | refine V.NIf.dec_ ?_ | refine V.a4 ?_ | refine V.a5 ?_ | refine V.NIf.mk (fun _ => ?_) (fun _ => ?_) | refine V.a7 ?_ | refine V.a8 ?_ | refine V.a9 ?_ | refine V.NBoth.mk ?_ ?_ | refine V.b1 ?_ | refine V.b2 ?_ | refine V.NTF.dec ?_ | refine V.b3 ?_ | refine V.b4 ?_ | (refine NIdx.mk ⟨_, rfl, by omega, ?_⟩) | (refine NIdx.mk ⟨f, hf, by omega, ?_⟩) | (refine NIdx.mk ⟨t, ht, by omega, ?_⟩) | (refine NSrc.mk (.inr ⟨4, _, _, _, _, rfl, ?_⟩)) | (refine NSrc.mk (.inr ⟨5, _, _, _, _, rfl, ?_⟩)) | (refine NSame.mk rfl ?_) | (refine NAny.mk fun v => ?_) | (refine V.NDraw.any (by kernel_rfl) ?_) | fail)
    all_goals (conv => whnf)
    all_goals exact V.NBack.at_ (k + 1, _) [] (by show k + 1 ≤ l.length; omega) (by show l.length - (k + 1) < l.length - k; omega) V.S_ rfl ⟨⟨rfl, rfl, rfl, rfl, fun p hp => ⟨rfl, fun m g h => rwsStep hlt hf ht hne h⟩⟩, trivial⟩ V.S_ V.S_
  obtain rfl : k = l.length := by omega
  repeat' ((conv => whnf); first | refine V.NCond.mk ?_ | refine V.NIf.not_ ?_ | refine V.NIf.dec_ ?_ | refine V.a4 ?_ | refine V.a5 ?_ | refine V.NIf.mk (fun _ => ?_) (fun _ => ?_) | refine V.a7 ?_ | refine V.a8 ?_ | refine V.a9 ?_ | refine V.NBoth.mk ?_ ?_ | refine V.b1 ?_ | refine V.b2 ?_ | refine V.NTF.dec ?_ | refine V.b3 ?_ | refine V.b4 ?_ | (refine NMake.mk ⟨31, 31, rfl, rfl, by omega, by omega, by first | omega | decide | (simp; done) | (simp; omega), ?_⟩) | (refine V.NDraw.any (by kernel_rfl) ?_) | fail)
  all_goals (conv => whnf)
  refine V.NLoop.auto (fun (k : Nat) => [(50, .one (.val (.int .i64 k))), (8, .one (.ref 3))]) (fun (k : Nat) => [(2, .rws 123 3 1 31 vs fun p => if p < k then none else some ((Nt.part l p).length, ga e1 (Nt.part l p))), (3, .row 3 1 31 fun j => e1 (if j < k then M.sum (Nt.part l j) else 0))]) [] [] (fun (k : Nat) => 31 - k) (fun (k : Nat) => k ≤ 31 ∧ ∀ p, p < k → M.Amt (M.sum (Nt.part l p))) 0 ⟨by omega, fun p h => absurd h (Nat.not_lt_zero _)⟩ V.S_ (by (conv => whnf); exact ⟨⟨rfl, rfl, rfl, rfl, fun p hp => ⟨rfl, fun m g h => ⟨_, by rw [← h, List.take_length]; exact (if_neg (Nat.not_lt_zero p)).symm, fun _ _ => rfl⟩⟩⟩, ⟨rfl, rfl, rfl, fun j hj => (congrArg e1 (if_neg (Nat.not_lt_zero j))).symm⟩, trivial⟩) (fun _ => ⟨rfl, rfl⟩) ?_; (conv => whnf); refine ⟨⟨rfl, rfl⟩, ?_⟩
  rintro k ⟨hk, hJ⟩
  by_cases hlt : k < 31
  · have ln := Nt.part_len l k
    have pa := Nt.part_amt hck (p := k)
    repeat' ((conv => whnf); first | refine V.NCond.mk ?_ | refine V.NIf.not_ ?_ | refine V.NIf.dec_ ?_ | refine V.a4 ?_ | refine V.a5 ?_ | refine V.NIf.mk (fun _ => ?_) (fun _ => ?_) | refine V.a7 ?_ | refine V.a8 ?_ | refine V.a9 ?_ | refine V.NBoth.mk ?_ ?_ | refine V.b1 ?_ | refine V.b2 ?_ | refine V.NTF.dec ?_ | refine V.b3 ?_ | refine V.b4 ?_ | (refine NSel.mk ⟨k, _, rfl, vals0 vs hlt, ?_⟩) | (refine NCall.see 0 2 k rfl (by omega) (if_neg (Nat.lt_irrefl k)) rfl ?_) | ((first | refine V.Fn.k (v_ntotal (Nt.part l k) (by omega) pa) [4] rfl ?_ ?_ | refine V.Fn.q (v_ntotal (Nt.part l k) (by omega) pa) [4] rfl ?_ ?_ | refine V.Fn.a (v_ntotal (Nt.part l k) (by omega) pa) [4] rfl ?_ ?_); · exact V.D_) | (refine NIdx.mk ⟨k, rfl, by omega, ?_⟩) | (refine NPut.mk ⟨fun j => e1 (if j < k + 1 then M.sum (Nt.part l j) else 0), ?_, ?_⟩) | (refine V.NDraw.any (by kernel_rfl) ?_) | fail)
    all_goals (conv => whnf)
    · intro j hj
      rw [Nt.tov_amt pa (by assumption)]
      by_cases e : j = k
      · subst e
        rw [if_pos rfl]
        show e1 _ = _
        rw [if_pos (by omega)]
        rfl
      · rw [if_neg e]
        by_cases e2 : j < k
        · show e1 _ = e1 _
          rw [if_pos (by omega), if_pos e2]
        · show e1 _ = e1 _
          rw [if_neg (by omega), if_neg e2]
    · have hA : M.Amt (M.sum (Nt.part l k)) := by assumption
      exact V.NBack.at_ (k + 1) [] ⟨by omega, fun p hp => (Nat.lt_succ_iff_lt_or_eq.1 hp).elim (hJ p) (fun e => e ▸ hA)⟩ (by omega) V.S_ rfl ⟨⟨rfl, rfl, rfl, rfl, fun p hp => ⟨rfl, fun m g h => rwsOut h⟩⟩, ⟨rfl, rfl, rfl, fun _ _ => rfl⟩, trivial⟩ V.S_ V.S_
    · have hA : ¬ M.Amt (M.sum (Nt.part l k)) := by assumption
      have e : Nt.stE l = 8 := Nt.stE_no h0 fun w => hA (w k hlt)
      rw [show Nt.st l = [] from if_neg (by omega), e]
      (first | exact V.er 0 | exact V.er 1 | exact V.er 2 | exact V.er 3 | exact V.er 4 | exact V.er 5 | exact V.er 6 | exact V.er 7 | exact V.er 8 | exact V.er 9 | exact V.er 10 | exact V.er 11 | exact V.er 12 | exact V.er 13 | exact V.er 14 | exact V.er 15 | exact V.er 16 | exact V.er 17)
  obtain rfl : k = 31 := by omega
  have e : Nt.stE l = 0 := Nt.stE_ok h0 hJ
  rw [show Nt.st l = Nt.sums l 31 from if_pos e, e]
  repeat' ((conv => whnf); first | refine V.NCond.mk ?_ | refine V.NIf.not_ ?_ | refine V.NIf.dec_ ?_ | refine V.a4 ?_ | refine V.a5 ?_ | refine V.NIf.mk (fun _ => ?_) (fun _ => ?_) | refine V.a7 ?_ | refine V.a8 ?_ | refine V.a9 ?_ | refine V.NBoth.mk ?_ ?_ | refine V.b1 ?_ | refine V.b2 ?_ | refine V.NTF.dec ?_ | refine V.b3 ?_ | refine V.b4 ?_ | (refine V.NDraw.any (by kernel_rfl) ?_) | fail)
  all_goals (conv => whnf)
  (first | (refine NRet.mk_ [some 0] rfl ?_ ?_; (· ((repeat' (first | exact rfl | exact trivial | refine ⟨?_, ?_⟩)); done)); (· (refine ⟨?_, trivial⟩; refine ⟨rfl, rfl, by simp [Nt.sums], ?_⟩; intro j hj; show e1 _ = e1 _; rw [if_pos hj, getD_at (by simp [Nt.sums]; omega)]; simp [Nt.sums]; done))) | (refine NRet.mk_ [some 1] rfl ?_ ?_; (· ((repeat' (first | exact rfl | exact trivial | refine ⟨?_, ?_⟩)); done)); (· (refine ⟨?_, trivial⟩; refine ⟨rfl, rfl, by simp [Nt.sums], ?_⟩; intro j hj; show e1 _ = e1 _; rw [if_pos hj, getD_at (by simp [Nt.sums]; omega)]; simp [Nt.sums]; done))) | (refine NRet.mk_ [some 2] rfl ?_ ?_; (· ((repeat' (first | exact rfl | exact trivial | refine ⟨?_, ?_⟩)); done)); (· (refine ⟨?_, trivial⟩; refine ⟨rfl, rfl, by simp [Nt.sums], ?_⟩; intro j hj; show e1 _ = e1 _; rw [if_pos hj, getD_at (by simp [Nt.sums]; omega)]; simp [Nt.sums]; done))) | (refine NRet.mk_ [some 3] rfl ?_ ?_; (· ((repeat' (first | exact rfl | exact trivial | refine ⟨?_, ?_⟩)); done)); (· (refine ⟨?_, trivial⟩; refine ⟨rfl, rfl, by simp [Nt.sums], ?_⟩; intro j hj; show e1 _ = e1 _; rw [if_pos hj, getD_at (by simp [Nt.sums]; omega)]; simp [Nt.sums]; done))) | (refine NRet.mk_ [some 4] rfl ?_ ?_; (· ((repeat' (first | exact rfl | exact trivial | refine ⟨?_, ?_⟩)); done)); (· (refine ⟨?_, trivial⟩; refine ⟨rfl, rfl, by simp [Nt.sums], ?_⟩; intro j hj; show e1 _ = e1 _; rw [if_pos hj, getD_at (by simp [Nt.sums]; omega)]; simp [Nt.sums]; done))) | (refine NRet.mk_ [some 5] rfl ?_ ?_; (· ((repeat' (first | exact rfl | exact trivial | refine ⟨?_, ?_⟩)); done)); (· (refine ⟨?_, trivial⟩; refine ⟨rfl, rfl, by simp [Nt.sums], ?_⟩; intro j hj; show e1 _ = e1 _; rw [if_pos hj, getD_at (by simp [Nt.sums]; omega)]; simp [Nt.sums]; done))) | (refine NRet.mk_ [some 6] rfl ?_ ?_; (· ((repeat' (first | exact rfl | exact trivial | refine ⟨?_, ?_⟩)); done)); (· (refine ⟨?_, trivial⟩; refine ⟨rfl, rfl, by simp [Nt.sums], ?_⟩; intro j hj; show e1 _ = e1 _; rw [if_pos hj, getD_at (by simp [Nt.sums]; omega)]; simp [Nt.sums]; done))) | (refine NRet.mk_ [some 7] rfl ?_ ?_; (· ((repeat' (first | exact rfl | exact trivial | refine ⟨?_, ?_⟩)); done)); (· (refine ⟨?_, trivial⟩; refine ⟨rfl, rfl, by simp [Nt.sums], ?_⟩; intro j hj; show e1 _ = e1 _; rw [if_pos hj, getD_at (by simp [Nt.sums]; omega)]; simp [Nt.sums]; done))) | (refine NRet.mk_ [some 8] rfl ?_ ?_; (· ((repeat' (first | exact rfl | exact trivial | refine ⟨?_, ?_⟩)); done)); (· (refine ⟨?_, trivial⟩; refine ⟨rfl, rfl, by simp [Nt.sums], ?_⟩; intro j hj; show e1 _ = e1 _; rw [if_pos hj, getD_at (by simp [Nt.sums]; omega)]; simp [Nt.sums]; done))) | (refine NRet.mk_ [some 9] rfl ?_ ?_; (· ((repeat' (first | exact rfl | exact trivial | refine ⟨?_, ?_⟩)); done)); (· (refine ⟨?_, trivial⟩; refine ⟨rfl, rfl, by simp [Nt.sums], ?_⟩; intro j hj; show e1 _ = e1 _; rw [if_pos hj, getD_at (by simp [Nt.sums]; omega)]; simp [Nt.sums]; done))) | (refine NRet.mk_ [some 10] rfl ?_ ?_; (· ((repeat' (first | exact rfl | exact trivial | refine ⟨?_, ?_⟩)); done)); (· (refine ⟨?_, trivial⟩; refine ⟨rfl, rfl, by simp [Nt.sums], ?_⟩; intro j hj; show e1 _ = e1 _; rw [if_pos hj, getD_at (by simp [Nt.sums]; omega)]; simp [Nt.sums]; done))) | (refine NRet.mk_ [some 11] rfl ?_ ?_; (· ((repeat' (first | exact rfl | exact trivial | refine ⟨?_, ?_⟩)); done)); (· (refine ⟨?_, trivial⟩; refine ⟨rfl, rfl, by simp [Nt.sums], ?_⟩; intro j hj; show e1 _ = e1 _; rw [if_pos hj, getD_at (by simp [Nt.sums]; omega)]; simp [Nt.sums]; done))) | (refine NRet.mk_ [some 12] rfl ?_ ?_; (· ((repeat' (first | exact rfl | exact trivial | refine ⟨?_, ?_⟩)); done)); (· (refine ⟨?_, trivial⟩; refine ⟨rfl, rfl, by simp [Nt.sums], ?_⟩; intro j hj; show e1 _ = e1 _; rw [if_pos hj, getD_at (by simp [Nt.sums]; omega)]; simp [Nt.sums]; done))) | (refine NRet.mk_ [some 13] rfl ?_ ?_; (· ((repeat' (first | exact rfl | exact trivial | refine ⟨?_, ?_⟩)); done)); (· (refine ⟨?_, trivial⟩; refine ⟨rfl, rfl, by simp [Nt.sums], ?_⟩; intro j hj; show e1 _ = e1 _; rw [if_pos hj, getD_at (by simp [Nt.sums]; omega)]; simp [Nt.sums]; done))) | (refine NRet.mk_ [some 14] rfl ?_ ?_; (· ((repeat' (first | exact rfl | exact trivial | refine ⟨?_, ?_⟩)); done)); (· (refine ⟨?_, trivial⟩; refine ⟨rfl, rfl, by simp [Nt.sums], ?_⟩; intro j hj; show e1 _ = e1 _; rw [if_pos hj, getD_at (by simp [Nt.sums]; omega)]; simp [Nt.sums]; done))) | (refine NRet.mk_ [some 15] rfl ?_ ?_; (· ((repeat' (first | exact rfl | exact trivial | refine ⟨?_, ?_⟩)); done)); (· (refine ⟨?_, trivial⟩; refine ⟨rfl, rfl, by simp [Nt.sums], ?_⟩; intro j hj; show e1 _ = e1 _; rw [if_pos hj, getD_at (by simp [Nt.sums]; omega)]; simp [Nt.sums]; done))) | (refine NRet.mk_ [some 16] rfl ?_ ?_; (· ((repeat' (first | exact rfl | exact trivial | refine ⟨?_, ?_⟩)); done)); (· (refine ⟨?_, trivial⟩; refine ⟨rfl, rfl, by simp [Nt.sums], ?_⟩; intro j hj; show e1 _ = e1 _; rw [if_pos hj, getD_at (by simp [Nt.sums]; omega)]; simp [Nt.sums]; done))) | (refine NRet.mk_ [some 17] rfl ?_ ?_; (· ((repeat' (first | exact rfl | exact trivial | refine ⟨?_, ?_⟩)); done)); (· (refine ⟨?_, trivial⟩; refine ⟨rfl, rfl, by simp [Nt.sums], ?_⟩; intro j hj; show e1 _ = e1 _; rw [if_pos hj, getD_at (by simp [Nt.sums]; omega)]; simp [Nt.sums]; done))))
end Go.Proofs.Ytdeekpcfmgfmcaa

/- What the sum of some amounts is, by the document. -/
namespace Go.Proofs.Ytdeekpcfmgfmcaa
open Go Go.RowKit V
set_option maxRecDepth 100000
set_option linter.unusedVariables false
theorem v_amcheck (a : Int) : V.Fn Try.prog 79 [] [.one (.val (.int .i64 a))] (.int .i64 (M.chk a)) := by
  refine V.Fn.mk_ V.Tok V.mixed Try.func79 rfl Try.ntmps79 (by kernel_rfl) rfl rfl ?_
  repeat' ((conv => whnf); first | refine V.NCond.mk ?_ | refine V.NIf.not_ ?_ | refine V.NIf.dec_ ?_ | refine V.a4 ?_ | refine V.a5 ?_ | refine V.NIf.mk (fun _ => ?_) (fun _ => ?_) | refine V.a7 ?_ | refine V.a8 ?_ | refine V.a9 ?_ | refine V.NBoth.mk ?_ ?_ | refine V.b1 ?_ | refine V.b2 ?_ | refine V.NTF.dec ?_ | refine V.b3 ?_ | refine V.b4 ?_ | (first | refine V.Fn.k0 (v_rbetween _ _ _) rfl ?_ | refine V.Fn.q0 (v_rbetween _ _ _) rfl ?_ | refine V.Fn.a0 (v_rbetween _ _ _) rfl ?_) | (refine V.NDraw.any (by kernel_rfl) ?_) | fail)
  all_goals ((conv => whnf); refine congrArg _ ?_; unfold M.chk M.Amt; (repeat' split) <;> first | rfl | omega | (exfalso; omega) | (simp_all; done) | (simp_all; omega))
theorem fin_ib {x u : Int} {p : Prop} {b : Bool} (h1 : u = x) (h2 : b = true ↔ p) : Fin1 (.one (.val (.int .i64 x))) (.int .i64 u) ∧ FinL [.one (.prop p)] [.bool b] := ⟨V.fin1 h1, ⟨b, rfl, h2.symm⟩, trivial⟩
set_option maxHeartbeats 1000000 in
theorem v_sumof (l : List Int) (hn : l.length ≤ 100000) (hJ : ∀ a ∈ l, M.Amt a) : V.Fn Try.prog 98 [.arr 1 l.length (ga e1 l)] [.one (.ref 0)] (.tuple #[.int .i64 (M.sofV l), .bool (decide (M.Amt (M.sum l)))]) := by
  refine V.Fn.mk_ V.Tok V.mixed Try.func98 rfl Try.ntmps98 (by kernel_rfl) rfl rfl ?_
  repeat' ((conv => whnf); first | refine V.NCond.mk ?_ | refine V.NIf.not_ ?_ | refine V.NIf.dec_ ?_ | refine V.a4 ?_ | refine V.a5 ?_ | refine V.NIf.mk (fun _ => ?_) (fun _ => ?_) | refine V.a7 ?_ | refine V.a8 ?_ | refine V.a9 ?_ | refine V.NBoth.mk ?_ ?_ | refine V.b1 ?_ | refine V.b2 ?_ | refine V.NTF.dec ?_ | refine V.b3 ?_ | refine V.b4 ?_ | (refine V.NDraw.any (by kernel_rfl) ?_) | fail)
  refine V.NLoop.auto (fun (k : Nat) => [(6, .one (.val (.int .i64 k))), (4, .one (.ref 1)), (5, .one (.ref 2))]) (fun (k : Nat) => [(1, .row 3 1 (M.mo (l.take k)).length (ga e1 (M.mo (l.take k)))), (2, .row 3 1 (M.le (l.take k)).length (ga e1 (M.le (l.take k))))]) [] [] (fun (k : Nat) => l.length - k) (fun (k : Nat) => k ≤ l.length) 0 (Nat.zero_le _) V.S_ V.S_ (fun _ => ⟨rfl, rfl⟩) ?_; (conv => whnf); refine ⟨⟨rfl, rfl⟩, ?_⟩
  rintro k hk
  obtain ⟨m1, m2⟩ := M.mole_len l k hk
  repeat' ((conv => whnf); first | refine V.NCond.mk ?_ | refine V.NIf.not_ ?_ | refine V.NIf.dec_ ?_ | refine V.a4 ?_ | refine V.a5 ?_ | refine V.NIf.mk (fun _ => ?_) (fun _ => ?_) | refine V.a7 ?_ | refine V.a8 ?_ | refine V.a9 ?_ | refine V.NBoth.mk ?_ ?_ | refine V.b1 ?_ | refine V.b2 ?_ | refine V.NTF.dec ?_ | refine V.b3 ?_ | refine V.b4 ?_ | (refine NIdx.mk ⟨_, rfl, by omega, ?_⟩) | (refine V.NDraw.any (by kernel_rfl) ?_) | fail)
  all_goals (conv => whnf)
  · rename_i hlt h0
    have hlt : k < l.length := by omega
    rw [getD_at hlt] at h0
    exact V.NBack.at_ (k + 1) [(1, 4)] (by omega) (by omega) V.S_ rfl ⟨ObLe.as_ ((M.mo_snoc hlt).trans ((if_pos h0).trans (by rw [getD_at hlt]))), ObLe.as_ ((M.le_snoc hlt).trans (if_pos h0)), trivial⟩ V.S_ V.S_
  · rename_i hlt h0
    have hlt : k < l.length := by omega
    rw [getD_at hlt] at h0
    exact V.NBack.at_ (k + 1) [(2, 4)] (by omega) (by omega) V.S_ rfl ⟨ObLe.as_ ((M.mo_snoc hlt).trans (if_neg h0)), ObLe.as_ ((M.le_snoc hlt).trans ((if_neg h0).trans (by rw [getD_at hlt]))), trivial⟩ V.S_ V.S_
  obtain rfl : k = l.length := by omega
  have eT : l.take l.length = l := List.take_length
  generalize l.take l.length = T at *
  replace eT := eT.symm
  subst eT
  have hs := M.mole_sum l
  have b1 : ∀ i : Nat, i < (M.mo l).length → 0 ≤ (M.mo l).getD (0 + i) default ∧ (M.mo l).getD (0 + i) default ≤ 1152921504606846976 := fun i h => by
    rw [Nat.zero_add, getD_at h]; exact ⟨M.mo_pos l _ (List.getElem_mem h), (hJ _ (List.mem_filter.1 (List.getElem_mem h)).1).2⟩
  have b2 : ∀ i : Nat, i < (M.le l).length → (M.le l).getD (0 + i) default ≤ 0 ∧ -1152921504606846976 ≤ (M.le l).getD (0 + i) default := fun i h => by
    rw [Nat.zero_add, getD_at h]; exact ⟨M.le_neg l _ (List.getElem_mem h), (hJ _ (List.mem_filter.1 (List.getElem_mem h)).1).1⟩
  refine V.NLoop.auto (fun (⟨i, j, s⟩ : Nat × Nat × Int) => [(7, .one (.val (.int .i64 s))), (4, .one (.ref 1)), (5, .one (.ref 2))]) (fun (⟨i, j, s⟩ : Nat × Nat × Int) => [(1, .arr 1 ((M.mo l).length - i) fun k => e1 ((M.mo l).getD (k + i) default)), (2, .arr 1 ((M.le l).length - j) fun k => e1 ((M.le l).getD (k + j) default))]) [] [] (fun (⟨i, j, s⟩ : Nat × Nat × Int) => (M.mo l).length + (M.le l).length - i - j) (fun (⟨i, j, s⟩ : Nat × Nat × Int) => (i ≤ (M.mo l).length ∧ j ≤ (M.le l).length) ∧ s = M.sum ((M.mo l).take i) + M.sum ((M.le l).take j) ∧ -2305843009213693952 ≤ s ∧ s ≤ 2305843009213693952) (0, 0, 0) ⟨by simp, by simp [M.sum], by omega, by omega⟩ V.S_ V.S_ (fun _ => ⟨rfl, rfl⟩) ?_; (conv => whnf); refine ⟨⟨rfl, rfl⟩, ?_⟩
  rintro ⟨i, j, s⟩ ⟨hij, hs1, hs2⟩
  repeat' ((conv => whnf); first | refine V.NCond.mk ?_ | refine V.NIf.not_ ?_ | refine V.NIf.dec_ ?_ | refine V.a4 ?_ | refine V.a5 ?_ | refine V.NIf.mk (fun _ => ?_) (fun _ => ?_) | refine V.a7 ?_ | refine V.a8 ?_ | refine V.a9 ?_ | refine V.NBoth.mk ?_ ?_ | refine V.b1 ?_ | refine V.b2 ?_ | refine V.NTF.dec ?_ | refine V.b3 ?_ | refine V.b4 ?_ | (refine NIdx.mk ⟨0, rfl, by omega, ?_⟩) | (first | refine V.Fn.k0 (v_amcheck _) rfl ?_ | refine V.Fn.q0 (v_amcheck _) rfl ?_ | refine V.Fn.a0 (v_amcheck _) rfl ?_) | (first | refine V.Fn.k0 (v_rbetween _ _ _) rfl ?_ | refine V.Fn.q0 (v_rbetween _ _ _) rfl ?_ | refine V.Fn.a0 (v_rbetween _ _ _) rfl ?_) | (refine NCut.mk ⟨1, _, rfl, rfl, by omega, by omega, ?_⟩) | (refine V.NWrap.ok (by have := b1 i (by omega); omega) (by have := b1 i (by omega); omega) ?_) | (refine V.NWrap.ok (by have := b2 j (by omega); omega) (by have := b2 j (by omega); omega) ?_) | (refine V.NDraw.any (by kernel_rfl) ?_) | fail)
  all_goals (conv => whnf)
  all_goals have d1 := M.sum_drop_pos (M.mo_pos l) i
  all_goals have d2 := M.sum_drop_neg (M.le_neg l) j
  all_goals first
    | (refine V.NBack.at_ (i + 1, j, s + (M.mo l).getD (0 + i) default) [(1, 3)] ⟨⟨by omega, by omega⟩, ?_, by omega, by omega⟩ (by simp only; omega) V.S_ rfl ⟨ObLe.cut_ (by omega) (by omega), ⟨rfl, rfl, fun _ _ => rfl⟩, trivial⟩ V.S_ V.S_; omega)
    | (refine V.NBack.at_ (i, j + 1, s + (M.le l).getD (0 + j) default) [(2, 3)] ⟨⟨by omega, by omega⟩, ?_, by omega, by omega⟩ (by simp only; omega) V.S_ rfl ⟨⟨rfl, rfl, fun _ _ => rfl⟩, ObLe.cut_ (by omega) (by omega), trivial⟩ V.S_ V.S_; omega)
    | (refine fin_ib ?_ ?_
       · unfold M.sofV; split <;> omega
       · have q := @M.chk_yes s; have q2 := @M.chk_no s
         have e : s = M.sum l := by omega
         rw [← e]
         by_cases z : M.Amt s
         · simp [z, q z]
         · simp [z, q2 z])
    | (refine ⟨V.fin1 ?_, congrArg Value.bool (decide_eq_false ?_).symm, trivial⟩
       · unfold M.sofV; rw [if_neg]; have := b1 i; have := b2 j; omega
       · unfold M.Amt; have := b1 i; have := b2 j; omega)
end Go.Proofs.Ytdeekpcfmgfmcaa

/- How parties stand, by the document: the walk. -/
namespace Go.Proofs.Ytdeekpcfmgfmcaa
open Go Go.RowKit V
set_option maxRecDepth 100000
set_option linter.unusedVariables false
set_option maxHeartbeats 4000000 in
theorem v_rdue (l : List Du) (p q : Int) (hn : l.length ≤ 60) (hck : ∀ d ∈ l, N.ck1 d = 0) : V.FnR Try.prog 99 [.arr 3 l.length (ga encD l)] [.one (.ref 0), .one (.val (.int .i64 p)), .one (.val (.int .i64 q))] (.one (.ref 1)) [.row 3 1 (Nt.due l p q).length (ga e1 (Nt.due l p q))] := by
  refine V.FnR.mk_ V.Tok V.mixed Try.func99 rfl Try.ntmps99 (by kernel_rfl) rfl rfl rfl rfl ?_
  repeat' ((conv => whnf); first | refine V.NCond.mk ?_ | refine V.NIf.not_ ?_ | refine V.NIf.dec_ ?_ | refine V.a4 ?_ | refine V.a5 ?_ | refine V.NIf.mk (fun _ => ?_) (fun _ => ?_) | refine V.a7 ?_ | refine V.a8 ?_ | refine V.a9 ?_ | refine V.NBoth.mk ?_ ?_ | refine V.b1 ?_ | refine V.b2 ?_ | refine V.NTF.dec ?_ | refine V.b3 ?_ | refine V.b4 ?_ | (refine V.NDraw.any (by kernel_rfl) ?_) | fail)
  refine V.NLoop.auto (fun (k : Nat) => [(8, .one (.val (.int .i64 k))), (7, .one (.ref 2))]) (fun (k : Nat) => [(2, .row 3 1 (Nt.due (l.take k) p q).length (ga e1 (Nt.due (l.take k) p q)))]) [] [] (fun (k : Nat) => l.length - k) (fun (k : Nat) => k ≤ l.length) 0 (Nat.zero_le _) V.S_ V.S_ (fun _ => ⟨rfl, rfl⟩) ?_; (conv => whnf); refine ⟨⟨rfl, rfl⟩, ?_⟩
  rintro k hk
  by_cases hlt : k < l.length
  · have ok := N.ck_ok (hck _ (getD_mem hlt))
    have l1 := Nt.due_len (l.take k) p q
    rw [List.length_take] at l1
    have ds := Nt.due_take hlt p q
    unfold Nt.two at ds
    repeat' ((conv => whnf); first | refine V.NCond.mk ?_ | refine V.NIf.not_ ?_ | refine V.NIf.dec_ ?_ | refine V.a4 ?_ | refine V.a5 ?_ | refine V.NIf.mk (fun _ => ?_) (fun _ => ?_) | refine V.a7 ?_ | refine V.a8 ?_ | refine V.a9 ?_ | refine V.NBoth.mk ?_ ?_ | refine V.b1 ?_ | refine V.b2 ?_ | refine V.NTF.dec ?_ | refine V.b3 ?_ | refine V.b4 ?_ | (refine NIdx.mk ⟨_, rfl, by omega, ?_⟩) | (refine V.NDraw.any (by kernel_rfl) ?_) | fail)
    all_goals (conv => whnf)
    all_goals first
      | exact V.NBack.at_ (k + 1) [] (by omega) (by omega) V.S_ rfl ⟨ObLe.as_ (ds.trans (by rw [if_neg (by omega), if_neg (by omega), List.append_nil, List.append_nil])), trivial⟩ V.S_ V.S_
      | exact V.NBack.at_ (k + 1) [(2, 4)] (by omega) (by omega) V.S_ rfl ⟨ObLe.as_ (ds.trans (by rw [if_pos (by omega), if_neg (by omega)]; rfl)), trivial⟩ V.S_ V.S_
      | exact V.NBack.at_ (k + 1) [(2, 4)] (by omega) (by omega) V.S_ rfl ⟨ObLe.as_ (ds.trans (by rw [if_neg (by omega), if_pos (by omega), Int.zero_sub]; rfl)), trivial⟩ V.S_ V.S_
      | skip
  obtain rfl : k = l.length := by omega
  rw [show l.take l.length = l from List.take_length]
  repeat' ((conv => whnf); first | refine V.NCond.mk ?_ | refine V.NIf.not_ ?_ | refine V.NIf.dec_ ?_ | refine V.a4 ?_ | refine V.a5 ?_ | refine V.NIf.mk (fun _ => ?_) (fun _ => ?_) | refine V.a7 ?_ | refine V.a8 ?_ | refine V.a9 ?_ | refine V.NBoth.mk ?_ ?_ | refine V.b1 ?_ | refine V.b2 ?_ | refine V.NTF.dec ?_ | refine V.b3 ?_ | refine V.b4 ?_ | (refine V.NDraw.any (by kernel_rfl) ?_) | fail)
  all_goals (conv => whnf)
  exact NRet.mk_ [some 2] rfl rfl ⟨⟨rfl, rfl, rfl, fun _ _ => rfl⟩, trivial⟩
set_option maxHeartbeats 4000000 in
theorem v_rstand (l : List Du) (hn : l.length ≤ 9223372036854775807) : V.FnR Try.prog 63 [.arr 3 l.length (ga encD l)] [.one (.ref 0)] (.tup [.one (.ref 1), .one (.val (.int .i64 (Nt.stE l)))]) [.row 3 1 (Nt.st l).length (ga e1 (Nt.st l))] := by
  refine V.FnR.mk_ V.Tok V.mixed Try.func63 rfl Try.ntmps63 (by kernel_rfl) rfl rfl rfl rfl ?_
  repeat' ((conv => whnf); first | refine V.NCond.mk ?_ | refine V.NIf.not_ ?_ | refine V.NIf.dec_ ?_ | refine V.a4 ?_ | refine V.a5 ?_ | refine V.NIf.mk (fun _ => ?_) (fun _ => ?_) | refine V.a7 ?_ | refine V.a8 ?_ | refine V.a9 ?_ | refine V.NBoth.mk ?_ ?_ | refine V.b1 ?_ | refine V.b2 ?_ | refine V.NTF.dec ?_ | refine V.b3 ?_ | refine V.b4 ?_ | ((first | refine V.Fn.k (v_netcheck _ hn) [0] rfl ?_ ?_ | refine V.Fn.q (v_netcheck _ hn) [0] rfl ?_ ?_ | refine V.Fn.a (v_netcheck _ hn) [0] rfl ?_ ?_); · exact V.D_) | (refine V.NDraw.any (by kernel_rfl) ?_) | fail)
  all_goals (conv => whnf)
  rotate_left
  · have e : Nt.stE l = N.chk l := if_pos (by omega)
    rw [show Nt.st l = [] from if_neg (by omega), e]
    (first | exact V.er 0 | exact V.er 1 | exact V.er 2 | exact V.er 3 | exact V.er 4 | exact V.er 5 | exact V.er 6 | exact V.er 7 | exact V.er 8 | exact V.er 9 | exact V.er 10 | exact V.er 11 | exact V.er 12 | exact V.er 13 | exact V.er 14 | exact V.er 15 | exact V.er 16 | exact V.er 17)
  have h0 : N.chk l = 0 := by omega
  obtain ⟨h60, hck⟩ := N.chk_ok h0
  refine V.NLoop.auto (fun (k : Nat) => [(6, .one (.val (.int .i64 k))), (5, .one (.ref 2))]) (fun (k : Nat) => [(2, .row 3 1 (Nt.sums l k).length (ga e1 (Nt.sums l k)))]) [] [] (fun (k : Nat) => 31 - k) (fun (k : Nat) => k ≤ 31 ∧ ∀ p, p < k → M.Amt (M.sum (Nt.part l p))) 0 ⟨by omega, fun p h => absurd h (Nat.not_lt_zero _)⟩ V.S_ V.S_ (fun _ => ⟨rfl, rfl⟩) ?_; (conv => whnf); refine ⟨⟨rfl, rfl⟩, ?_⟩
  rintro k ⟨hk, hJ⟩
  by_cases hlt : k < 31
  · have ln := Nt.due_len l k (-1)
    have pa := Nt.due_amt hck (p := k) (q := -1)
    have sl : (Nt.sums l k).length = k := by simp [Nt.sums]
    have du := v_rdue l k (-1) h60 hck
    have su := v_sumof (Nt.due l k (-1)) (by omega) pa
    rw [Nt.due_part hck k] at du su pa
    repeat' ((conv => whnf); first | refine V.NCond.mk ?_ | refine V.NIf.not_ ?_ | refine V.NIf.dec_ ?_ | refine V.a4 ?_ | refine V.a5 ?_ | refine V.NIf.mk (fun _ => ?_) (fun _ => ?_) | refine V.a7 ?_ | refine V.a8 ?_ | refine V.a9 ?_ | refine V.NBoth.mk ?_ ?_ | refine V.b1 ?_ | refine V.b2 ?_ | refine V.NTF.dec ?_ | refine V.b3 ?_ | refine V.b4 ?_ | ((first | refine V.FnR.k_ (du) [0] rfl ?_ ?_ | refine V.FnR.a_ (du) [0] rfl ?_ ?_); · exact V.D_) | ((first | refine V.Fn.k (su) [3] rfl ?_ ?_ | refine V.Fn.q (su) [3] rfl ?_ ?_ | refine V.Fn.a (su) [3] rfl ?_ ?_); · exact V.D_) | (refine V.NDraw.any (by kernel_rfl) ?_) | fail)
    all_goals (conv => whnf)
    · have hA : M.Amt (M.sum (Nt.part l k)) := by assumption
      exact V.NBack.at_ (k + 1) [(2, 5)] ⟨by omega, fun p hp => (Nat.lt_succ_iff_lt_or_eq.1 hp).elim (hJ p) (fun e => e ▸ hA)⟩ (by omega) V.S_ rfl ⟨ObLe.as_ ((Nt.sums_snoc l k).trans (by rw [Nt.sof_amt hA])), trivial⟩ V.S_ V.S_
    · have hA : ¬ M.Amt (M.sum (Nt.part l k)) := by assumption
      have e : Nt.stE l = 8 := Nt.stE_no h0 fun w => hA (w k hlt)
      rw [show Nt.st l = [] from if_neg (by omega), e]
      (first | exact V.er 0 | exact V.er 1 | exact V.er 2 | exact V.er 3 | exact V.er 4 | exact V.er 5 | exact V.er 6 | exact V.er 7 | exact V.er 8 | exact V.er 9 | exact V.er 10 | exact V.er 11 | exact V.er 12 | exact V.er 13 | exact V.er 14 | exact V.er 15 | exact V.er 16 | exact V.er 17)
  obtain rfl : k = 31 := by omega
  have e : Nt.stE l = 0 := Nt.stE_ok h0 hJ
  rw [show Nt.st l = Nt.sums l 31 from if_pos e, e]
  repeat' ((conv => whnf); first | refine V.NCond.mk ?_ | refine V.NIf.not_ ?_ | refine V.NIf.dec_ ?_ | refine V.a4 ?_ | refine V.a5 ?_ | refine V.NIf.mk (fun _ => ?_) (fun _ => ?_) | refine V.a7 ?_ | refine V.a8 ?_ | refine V.a9 ?_ | refine V.NBoth.mk ?_ ?_ | refine V.b1 ?_ | refine V.b2 ?_ | refine V.NTF.dec ?_ | refine V.b3 ?_ | refine V.b4 ?_ | (refine V.NDraw.any (by kernel_rfl) ?_) | fail)
  all_goals (conv => whnf)
  (first | exact V.erf 0 | exact V.erf 1 | exact V.erf 2 | exact V.erf 3 | exact V.erf 4 | exact V.erf 5 | exact V.erf 6 | exact V.erf 7 | exact V.erf 8 | exact V.erf 9 | exact V.erf 10 | exact V.erf 11 | exact V.erf 12 | exact V.erf 13 | exact V.erf 14 | exact V.erf 15 | exact V.erf 16 | exact V.erf 17)
end Go.Proofs.Ytdeekpcfmgfmcaa

/- What all pay in sum: the walks. -/
namespace Go.Proofs.Ytdeekpcfmgfmcaa
open Go Go.RowKit V
set_option maxRecDepth 100000
set_option linter.unusedVariables false
namespace Pn
/-- postings of those that do not stand at nothing -/
def po (p : Nat) (n : Int) : List Po := if n = 0 then [] else [⟨p, 0, n⟩]
def pos (s : List Int) (k : Nat) : List Po := (List.range k).flatMap fun p => po p (s.getD p default)
theorem pos_snoc (s : List Int) (k : Nat) : pos s (k + 1) = pos s k ++ po k (s.getD k default) := by
  unfold pos; rw [List.range_succ, List.flatMap_append]; simp
theorem pos_len (s : List Int) : ∀ k, (pos s k).length ≤ k
  | 0 => by simp [pos]
  | k + 1 => by
    have h := pos_len s k
    rw [pos_snoc, List.length_append]
    have : (po k (s.getD k default)).length ≤ 1 := by unfold po; split <;> simp
    omega
theorem po_yes {p : Nat} {n : Int} (h : n ≠ 0) : po p n = [⟨p, 0, n⟩] := if_neg h
theorem po_no {p : Nat} {n : Int} (h : n = 0) : po p n = [] := if_pos h
def suE (l : List Du) : Int := if Nt.stE l ≠ 0 then Nt.stE l else if (pos (Nt.st l) 31).length = 0 then 5 else 0
def suL (l : List Du) : List Po := if suE l = 0 then pos (Nt.st l) 31 else []
end Pn
theorem v_psum (l : List Du) (hn : l.length ≤ 9223372036854775807) : V.FnR Try.prog 22 [.arr 3 l.length (ga encD l)] [.one (.ref 0)] (.tup [.one (.ref 1), .one (.val (.int .i64 (Pn.suE l)))]) [.row 77 3 (Pn.suL l).length (ga encP (Pn.suL l))] := by
  refine V.FnR.mk_ V.Tok V.mixed Try.func22 rfl Try.ntmps22 (by kernel_rfl) rfl rfl rfl rfl ?_
  repeat' ((conv => whnf); first | refine V.NCond.mk ?_ | refine V.NIf.not_ ?_ | refine V.NIf.dec_ ?_ | refine V.a4 ?_ | refine V.a5 ?_ | refine V.NIf.mk (fun _ => ?_) (fun _ => ?_) | refine V.a7 ?_ | refine V.a8 ?_ | refine V.a9 ?_ | refine V.NBoth.mk ?_ ?_ | refine V.b1 ?_ | refine V.b2 ?_ | refine V.NTF.dec ?_ | refine V.b3 ?_ | refine V.b4 ?_ | ((first | refine V.FnR.k_ (v_stand l hn) [0] rfl ?_ ?_ | refine V.FnR.a_ (v_stand l hn) [0] rfl ?_ ?_); · exact V.D_) | (refine V.NDraw.any (by kernel_rfl) ?_) | fail)
  all_goals (conv => whnf)
  rotate_left
  · have e : Pn.suE l = Nt.stE l := if_pos (by assumption)
    rw [show Pn.suL l = [] from if_neg (by rw [e]; assumption), e]
    (first | exact V.er 0 | exact V.er 1 | exact V.er 2 | exact V.er 3 | exact V.er 4 | exact V.er 5 | exact V.er 6 | exact V.er 7 | exact V.er 8 | exact V.er 9 | exact V.er 10 | exact V.er 11 | exact V.er 12 | exact V.er 13 | exact V.er 14 | exact V.er 15 | exact V.er 16 | exact V.er 17)
  have h0 : Nt.stE l = 0 := by assumption
  have s31 : (Nt.st l).length = 31 := by rw [show Nt.st l = Nt.sums l 31 from if_pos h0]; simp [Nt.sums]
  refine V.NLoop.auto (fun (k : Nat) => [(19, .one (.val (.int .i64 k))), (6, .one (.ref 3))]) (fun (k : Nat) => [(3, .row 77 3 (Pn.pos (Nt.st l) k).length (ga encP (Pn.pos (Nt.st l) k)))]) [] [] (fun (k : Nat) => 31 - k) (fun (k : Nat) => k ≤ 31) 0 (Nat.zero_le _) V.S_ V.S_ (fun _ => ⟨rfl, rfl⟩) ?_; (conv => whnf); refine ⟨⟨rfl, rfl⟩, ?_⟩
  rintro k hk
  by_cases hlt : k < 31
  · have pl := Pn.pos_len (Nt.st l) k
    have ps := Pn.pos_snoc (Nt.st l) k
    repeat' ((conv => whnf); first | (refine NApp.one (en := encP) (l := Pn.pos (Nt.st l) k) (x := ⟨k, 0, (Nt.st l).getD k default⟩) (by simp; omega) (by simp; omega) ?_) | refine V.NCond.mk ?_ | refine V.NIf.not_ ?_ | refine V.NIf.dec_ ?_ | refine V.a4 ?_ | refine V.a5 ?_ | refine V.NIf.mk (fun _ => ?_) (fun _ => ?_) | refine V.a7 ?_ | refine V.a8 ?_ | refine V.a9 ?_ | refine V.NBoth.mk ?_ ?_ | refine V.b1 ?_ | refine V.b2 ?_ | refine V.NTF.dec ?_ | refine V.b3 ?_ | refine V.b4 ?_ | (refine NIdx.mk ⟨_, rfl, by omega, ?_⟩) | (refine V.NDraw.any (by kernel_rfl) ?_) | fail)
    all_goals (conv => whnf)
    all_goals first
      | exact V.NBack.at_ (k + 1) [] (by omega) (by omega) V.S_ rfl ⟨ObLe.as_ (ps.trans (by rw [Pn.po_no (by assumption), List.append_nil])), trivial⟩ V.S_ V.S_
      | exact V.NBack.at_ (k + 1) [(3, 5)] (by omega) (by omega) V.S_ rfl ⟨ObLe.as_ (ps.trans (by rw [Pn.po_yes (by assumption)])), trivial⟩ V.S_ V.S_
      | skip
  obtain rfl : k = 31 := by omega
  repeat' ((conv => whnf); first | refine V.NCond.mk ?_ | refine V.NIf.not_ ?_ | refine V.NIf.dec_ ?_ | refine V.a4 ?_ | refine V.a5 ?_ | refine V.NIf.mk (fun _ => ?_) (fun _ => ?_) | refine V.a7 ?_ | refine V.a8 ?_ | refine V.a9 ?_ | refine V.NBoth.mk ?_ ?_ | refine V.b1 ?_ | refine V.b2 ?_ | refine V.NTF.dec ?_ | refine V.b3 ?_ | refine V.b4 ?_ | (refine V.NDraw.any (by kernel_rfl) ?_) | fail)
  all_goals (conv => whnf)
  · have e : Pn.suE l = 5 := (if_neg (by omega)).trans (if_pos (by omega))
    rw [show Pn.suL l = [] from if_neg (by omega), e]
    (first | exact V.er 0 | exact V.er 1 | exact V.er 2 | exact V.er 3 | exact V.er 4 | exact V.er 5 | exact V.er 6 | exact V.er 7 | exact V.er 8 | exact V.er 9 | exact V.er 10 | exact V.er 11 | exact V.er 12 | exact V.er 13 | exact V.er 14 | exact V.er 15 | exact V.er 16 | exact V.er 17)
  · have e : Pn.suE l = 0 := (if_neg (by omega)).trans (if_neg (by omega))
    rw [show Pn.suL l = Pn.pos (Nt.st l) 31 from if_pos e, e]
    (first | exact V.erf 0 | exact V.erf 1 | exact V.erf 2 | exact V.erf 3 | exact V.erf 4 | exact V.erf 5 | exact V.erf 6 | exact V.erf 7 | exact V.erf 8 | exact V.erf 9 | exact V.erf 10 | exact V.erf 11 | exact V.erf 12 | exact V.erf 13 | exact V.erf 14 | exact V.erf 15 | exact V.erf 16 | exact V.erf 17)
theorem v_rpsum (l : List Du) (hn : l.length ≤ 9223372036854775807) : V.FnR Try.prog 23 [.arr 3 l.length (ga encD l)] [.one (.ref 0)] (.tup [.one (.ref 1), .one (.val (.int .i64 (Pn.suE l)))]) [.row 77 3 (Pn.suL l).length (ga encP (Pn.suL l))] := by
  refine V.FnR.mk_ V.Tok V.mixed Try.func23 rfl Try.ntmps23 (by kernel_rfl) rfl rfl rfl rfl ?_
  repeat' ((conv => whnf); first | refine V.NCond.mk ?_ | refine V.NIf.not_ ?_ | refine V.NIf.dec_ ?_ | refine V.a4 ?_ | refine V.a5 ?_ | refine V.NIf.mk (fun _ => ?_) (fun _ => ?_) | refine V.a7 ?_ | refine V.a8 ?_ | refine V.a9 ?_ | refine V.NBoth.mk ?_ ?_ | refine V.b1 ?_ | refine V.b2 ?_ | refine V.NTF.dec ?_ | refine V.b3 ?_ | refine V.b4 ?_ | ((first | refine V.FnR.k_ (v_rstand l hn) [0] rfl ?_ ?_ | refine V.FnR.a_ (v_rstand l hn) [0] rfl ?_ ?_); · exact V.D_) | (refine V.NDraw.any (by kernel_rfl) ?_) | fail)
  all_goals (conv => whnf)
  rotate_left
  · have e : Pn.suE l = Nt.stE l := if_pos (by assumption)
    rw [show Pn.suL l = [] from if_neg (by rw [e]; assumption), e]
    (first | exact V.er 0 | exact V.er 1 | exact V.er 2 | exact V.er 3 | exact V.er 4 | exact V.er 5 | exact V.er 6 | exact V.er 7 | exact V.er 8 | exact V.er 9 | exact V.er 10 | exact V.er 11 | exact V.er 12 | exact V.er 13 | exact V.er 14 | exact V.er 15 | exact V.er 16 | exact V.er 17)
  have h0 : Nt.stE l = 0 := by assumption
  have s31 : (Nt.st l).length = 31 := by rw [show Nt.st l = Nt.sums l 31 from if_pos h0]; simp [Nt.sums]
  refine V.NLoop.auto (fun (k : Nat) => [(7, .one (.val (.int .i64 k))), (6, .one (.ref 3))]) (fun (k : Nat) => [(3, .row 77 3 (Pn.pos (Nt.st l) k).length (ga encP (Pn.pos (Nt.st l) k)))]) [] [] (fun (k : Nat) => 31 - k) (fun (k : Nat) => k ≤ 31) 0 (Nat.zero_le _) V.S_ V.S_ (fun _ => ⟨rfl, rfl⟩) ?_; (conv => whnf); refine ⟨⟨rfl, rfl⟩, ?_⟩
  rintro k hk
  by_cases hlt : k < 31
  · have pl := Pn.pos_len (Nt.st l) k
    have ps := Pn.pos_snoc (Nt.st l) k
    repeat' ((conv => whnf); first | (refine NApp.one (en := encP) (l := Pn.pos (Nt.st l) k) (x := ⟨k, 0, (Nt.st l).getD k default⟩) (by simp; omega) (by simp; omega) ?_) | refine V.NCond.mk ?_ | refine V.NIf.not_ ?_ | refine V.NIf.dec_ ?_ | refine V.a4 ?_ | refine V.a5 ?_ | refine V.NIf.mk (fun _ => ?_) (fun _ => ?_) | refine V.a7 ?_ | refine V.a8 ?_ | refine V.a9 ?_ | refine V.NBoth.mk ?_ ?_ | refine V.b1 ?_ | refine V.b2 ?_ | refine V.NTF.dec ?_ | refine V.b3 ?_ | refine V.b4 ?_ | (refine NIdx.mk ⟨_, rfl, by omega, ?_⟩) | (refine V.NDraw.any (by kernel_rfl) ?_) | fail)
    all_goals (conv => whnf)
    all_goals first
      | exact V.NBack.at_ (k + 1) [] (by omega) (by omega) V.S_ rfl ⟨ObLe.as_ (ps.trans (by rw [Pn.po_no (by assumption), List.append_nil])), trivial⟩ V.S_ V.S_
      | exact V.NBack.at_ (k + 1) [(3, 5)] (by omega) (by omega) V.S_ rfl ⟨ObLe.as_ (ps.trans (by rw [Pn.po_yes (by assumption)])), trivial⟩ V.S_ V.S_
      | skip
  obtain rfl : k = 31 := by omega
  repeat' ((conv => whnf); first | refine V.NCond.mk ?_ | refine V.NIf.not_ ?_ | refine V.NIf.dec_ ?_ | refine V.a4 ?_ | refine V.a5 ?_ | refine V.NIf.mk (fun _ => ?_) (fun _ => ?_) | refine V.a7 ?_ | refine V.a8 ?_ | refine V.a9 ?_ | refine V.NBoth.mk ?_ ?_ | refine V.b1 ?_ | refine V.b2 ?_ | refine V.NTF.dec ?_ | refine V.b3 ?_ | refine V.b4 ?_ | (refine V.NDraw.any (by kernel_rfl) ?_) | fail)
  all_goals (conv => whnf)
  · have e : Pn.suE l = 5 := (if_neg (by omega)).trans (if_pos (by omega))
    rw [show Pn.suL l = [] from if_neg (by omega), e]
    (first | exact V.er 0 | exact V.er 1 | exact V.er 2 | exact V.er 3 | exact V.er 4 | exact V.er 5 | exact V.er 6 | exact V.er 7 | exact V.er 8 | exact V.er 9 | exact V.er 10 | exact V.er 11 | exact V.er 12 | exact V.er 13 | exact V.er 14 | exact V.er 15 | exact V.er 16 | exact V.er 17)
  · have e : Pn.suE l = 0 := (if_neg (by omega)).trans (if_neg (by omega))
    rw [show Pn.suL l = Pn.pos (Nt.st l) 31 from if_pos e, e]
    (first | exact V.erf 0 | exact V.erf 1 | exact V.erf 2 | exact V.erf 3 | exact V.erf 4 | exact V.erf 5 | exact V.erf 6 | exact V.erf 7 | exact V.erf 8 | exact V.erf 9 | exact V.erf 10 | exact V.erf 11 | exact V.erf 12 | exact V.erf 13 | exact V.erf 14 | exact V.erf 15 | exact V.erf 16 | exact V.erf 17)
end Go.Proofs.Ytdeekpcfmgfmcaa

/- What must be in any case, of ages. -/
namespace Go.Proofs.Ytdeekpcfmgfmcaa
open Go Go.RowKit V
set_option maxRecDepth 100000
set_option linter.unusedVariables false
theorem v_someTerms : V.Fn Try.prog 53 [] [] (.agg #[.int .i64 4, .int .i64 7, .int .i64 2, .int .i64 100]) := by
  refine V.Fn.mk_ V.Tok V.mixed Try.func53 rfl Try.ntmps53 (by kernel_rfl) rfl rfl ?_
  repeat' ((conv => whnf); first | refine V.NCond.mk ?_ | refine V.NIf.not_ ?_ | refine V.NIf.dec_ ?_ | refine V.a4 ?_ | refine V.a5 ?_ | refine V.NIf.mk (fun _ => ?_) (fun _ => ?_) | refine V.a7 ?_ | refine V.a8 ?_ | refine V.a9 ?_ | refine V.NBoth.mk ?_ ?_ | refine V.b1 ?_ | refine V.b2 ?_ | refine V.NTF.dec ?_ | refine V.b3 ?_ | refine V.b4 ?_ | (refine V.NDraw.any (by kernel_rfl) ?_) | fail)
  all_goals (conv => whnf)
  all_goals exact ⟨rfl, rfl, rfl, rfl, trivial⟩
end Go.Proofs.Ytdeekpcfmgfmcaa

/- Plain facts on lots. -/
namespace Go.Proofs.Ytdeekpcfmgfmcaa
open Go
structure Lt where
  day : Int
  un : Int
  co : Int
instance : Inhabited Lt := ⟨⟨0, 0, 0⟩⟩
end Go.Proofs.Ytdeekpcfmgfmcaa

/- Are two lists one? -/
namespace Go.Proofs.Ytdeekpcfmgfmcaa
open Go Go.RowKit V
set_option maxRecDepth 100000
set_option linter.unusedVariables false
instance : DecidableEq Du := fun x y => decidable_of_iff (x.fr = y.fr ∧ x.to = y.to ∧ x.am = y.am) ⟨fun h => by cases x; cases y; simp_all, fun h => by subst h; simp⟩
theorem Du_ne {x y : Du} (h : ¬ (x.fr = y.fr ∧ x.to = y.to ∧ x.am = y.am ∧ True)) : x ≠ y := fun e => by subst e; exact h (by simp)
theorem Du_eq {x y : Du} (h : x.fr = y.fr ∧ x.to = y.to ∧ x.am = y.am ∧ True) : x = y := by cases x; cases y; simp_all
theorem v_samedues (a b : List Du) (ha : a.length ≤ 9223372036854775807) : V.Fn Try.prog 16 [.arr 3 a.length (ga encD a), .arr 3 b.length (ga encD b)] [.one (.ref 0), .one (.ref 1)] (.bool (decide (a = b))) := by
  refine V.Fn.mk_ V.Tok V.mixed Try.func16 rfl Try.ntmps16 (by kernel_rfl) rfl rfl ?_
  repeat' ((conv => whnf); first | refine V.NCond.mk ?_ | refine V.NIf.not_ ?_ | refine V.NIf.dec_ ?_ | refine V.a4 ?_ | refine V.a5 ?_ | refine V.NIf.mk (fun _ => ?_) (fun _ => ?_) | refine V.a7 ?_ | refine V.a8 ?_ | refine V.a9 ?_ | refine V.NBoth.mk ?_ ?_ | refine V.b1 ?_ | refine V.b2 ?_ | refine V.NTF.dec ?_ | refine V.b3 ?_ | refine V.b4 ?_ | (refine V.NDraw.any (by kernel_rfl) ?_) | fail)
  rotate_left
  · exact congrArg Value.bool (decide_eq_false (by rintro rfl; omega)).symm
  (conv => whnf)
  rename_i hl
  have hl : a.length = b.length := by omega
  refine V.NLoop.auto (fun (k : Nat) => [(5, .one (.val (.int .i64 k)))]) (fun (k : Nat) => []) [] [] (fun (k : Nat) => a.length - k) (fun (k : Nat) => k ≤ a.length ∧ a.take k = b.take k) 0 ⟨by omega, by simp⟩ V.S_ V.S_ (fun _ => ⟨rfl, rfl⟩) ?_; (conv => whnf); refine ⟨⟨rfl, rfl⟩, ?_⟩
  rintro k ⟨hk, hJ⟩
  by_cases hlt : k < a.length
  · have e1 := getD_at (l := a) (by omega)
    have e2 := getD_at (l := b) (k := k) (by omega)
    repeat' ((conv => whnf); first | refine V.NCond.mk ?_ | refine V.NIf.not_ ?_ | refine V.NIf.dec_ ?_ | refine V.a4 ?_ | refine V.a5 ?_ | refine V.NIf.mk (fun _ => ?_) (fun _ => ?_) | refine V.a7 ?_ | refine V.a8 ?_ | refine V.a9 ?_ | refine V.NBoth.mk ?_ ?_ | refine V.b1 ?_ | refine V.b2 ?_ | refine V.NTF.dec ?_ | refine V.b3 ?_ | refine V.b4 ?_ | (refine NIdx.mk ⟨k, rfl, by omega, ?_⟩) | (refine V.NDraw.any (by kernel_rfl) ?_) | fail)
    all_goals (conv => whnf)
    · rename_i q
      exact V.NBack.at_ (k + 1) [] ⟨by omega, by rw [List.take_succ_eq_append_getElem hlt, List.take_succ_eq_append_getElem (by omega), hJ, ← e1, ← e2, Du_eq q]⟩ (by omega) V.S_ rfl V.S_ V.S_ V.S_
    · rename_i q
      exact congrArg Value.bool (decide_eq_false (by rintro rfl; exact Du_ne q rfl)).symm
  · obtain rfl : k = a.length := by omega
    repeat' ((conv => whnf); first | refine V.NCond.mk ?_ | refine V.NIf.not_ ?_ | refine V.NIf.dec_ ?_ | refine V.a4 ?_ | refine V.a5 ?_ | refine V.NIf.mk (fun _ => ?_) (fun _ => ?_) | refine V.a7 ?_ | refine V.a8 ?_ | refine V.a9 ?_ | refine V.NBoth.mk ?_ ?_ | refine V.b1 ?_ | refine V.b2 ?_ | refine V.NTF.dec ?_ | refine V.b3 ?_ | refine V.b4 ?_ | (refine V.NDraw.any (by kernel_rfl) ?_) | fail)
    (conv => whnf)
    refine congrArg Value.bool (decide_eq_true ?_).symm
    rw [List.take_length, List.take_of_length_le (by omega)] at hJ
    exact hJ
instance : DecidableEq Po := fun x y => decidable_of_iff (x.ac = y.ac ∧ x.ut = y.ut ∧ x.am = y.am) ⟨fun h => by cases x; cases y; simp_all, fun h => by subst h; simp⟩
theorem Po_ne {x y : Po} (h : ¬ (x.ac = y.ac ∧ x.ut = y.ut ∧ x.am = y.am ∧ True)) : x ≠ y := fun e => by subst e; exact h (by simp)
theorem Po_eq {x y : Po} (h : x.ac = y.ac ∧ x.ut = y.ut ∧ x.am = y.am ∧ True) : x = y := by cases x; cases y; simp_all
theorem v_sameposts (a b : List Po) (ha : a.length ≤ 9223372036854775807) : V.Fn Try.prog 25 [.arr 3 a.length (ga encP a), .arr 3 b.length (ga encP b)] [.one (.ref 0), .one (.ref 1)] (.bool (decide (a = b))) := by
  refine V.Fn.mk_ V.Tok V.mixed Try.func25 rfl Try.ntmps25 (by kernel_rfl) rfl rfl ?_
  repeat' ((conv => whnf); first | refine V.NCond.mk ?_ | refine V.NIf.not_ ?_ | refine V.NIf.dec_ ?_ | refine V.a4 ?_ | refine V.a5 ?_ | refine V.NIf.mk (fun _ => ?_) (fun _ => ?_) | refine V.a7 ?_ | refine V.a8 ?_ | refine V.a9 ?_ | refine V.NBoth.mk ?_ ?_ | refine V.b1 ?_ | refine V.b2 ?_ | refine V.NTF.dec ?_ | refine V.b3 ?_ | refine V.b4 ?_ | (refine V.NDraw.any (by kernel_rfl) ?_) | fail)
  rotate_left
  · exact congrArg Value.bool (decide_eq_false (by rintro rfl; omega)).symm
  (conv => whnf)
  rename_i hl
  have hl : a.length = b.length := by omega
  refine V.NLoop.auto (fun (k : Nat) => [(5, .one (.val (.int .i64 k)))]) (fun (k : Nat) => []) [] [] (fun (k : Nat) => a.length - k) (fun (k : Nat) => k ≤ a.length ∧ a.take k = b.take k) 0 ⟨by omega, by simp⟩ V.S_ V.S_ (fun _ => ⟨rfl, rfl⟩) ?_; (conv => whnf); refine ⟨⟨rfl, rfl⟩, ?_⟩
  rintro k ⟨hk, hJ⟩
  by_cases hlt : k < a.length
  · have e1 := getD_at (l := a) (by omega)
    have e2 := getD_at (l := b) (k := k) (by omega)
    repeat' ((conv => whnf); first | refine V.NCond.mk ?_ | refine V.NIf.not_ ?_ | refine V.NIf.dec_ ?_ | refine V.a4 ?_ | refine V.a5 ?_ | refine V.NIf.mk (fun _ => ?_) (fun _ => ?_) | refine V.a7 ?_ | refine V.a8 ?_ | refine V.a9 ?_ | refine V.NBoth.mk ?_ ?_ | refine V.b1 ?_ | refine V.b2 ?_ | refine V.NTF.dec ?_ | refine V.b3 ?_ | refine V.b4 ?_ | (refine NIdx.mk ⟨k, rfl, by omega, ?_⟩) | (refine V.NDraw.any (by kernel_rfl) ?_) | fail)
    all_goals (conv => whnf)
    · rename_i q
      exact V.NBack.at_ (k + 1) [] ⟨by omega, by rw [List.take_succ_eq_append_getElem hlt, List.take_succ_eq_append_getElem (by omega), hJ, ← e1, ← e2, Po_eq q]⟩ (by omega) V.S_ rfl V.S_ V.S_ V.S_
    · rename_i q
      exact congrArg Value.bool (decide_eq_false (by rintro rfl; exact Po_ne q rfl)).symm
  · obtain rfl : k = a.length := by omega
    repeat' ((conv => whnf); first | refine V.NCond.mk ?_ | refine V.NIf.not_ ?_ | refine V.NIf.dec_ ?_ | refine V.a4 ?_ | refine V.a5 ?_ | refine V.NIf.mk (fun _ => ?_) (fun _ => ?_) | refine V.a7 ?_ | refine V.a8 ?_ | refine V.a9 ?_ | refine V.NBoth.mk ?_ ?_ | refine V.b1 ?_ | refine V.b2 ?_ | refine V.NTF.dec ?_ | refine V.b3 ?_ | refine V.b4 ?_ | (refine V.NDraw.any (by kernel_rfl) ?_) | fail)
    (conv => whnf)
    refine congrArg Value.bool (decide_eq_true ?_).symm
    rw [List.take_length, List.take_of_length_le (by omega)] at hJ
    exact hJ
instance : DecidableEq Fl := fun x y => decidable_of_iff (x.id = y.id ∧ x.fr = y.fr ∧ x.to = y.to ∧ x.cl = y.cl ∧ x.pa = y.pa ∧ x.day = y.day ∧ x.un = y.un ∧ x.de = y.de ∧ x.bo = y.bo ∧ x.pd = y.pd) ⟨fun h => by cases x; cases y; simp_all, fun h => by subst h; simp⟩
instance : DecidableEq Lt := fun x y => decidable_of_iff (x.day = y.day ∧ x.un = y.un ∧ x.co = y.co) ⟨fun h => by cases x; cases y; simp_all, fun h => by subst h; simp⟩
end Go.Proofs.Ytdeekpcfmgfmcaa

/- What must be in any case, of penalties. -/
namespace Go.Proofs.Ytdeekpcfmgfmcaa
open Go Go.RowKit V
set_option maxRecDepth 100000
set_option linter.unusedVariables false
def tm0 : Tm := ⟨4, 7, 2, 100⟩
namespace Pn
def cls : List Tm := List.replicate 6 tm0
def tens : List Int := List.replicate 20 100000
theorem rep_at {α : Type} (x d : α) {n j : Nat} (h : j < n) : (List.replicate n x).getD j d = x := by simp [List.getD, h]
end Pn
theorem v_classes : V.FnR Try.prog 49 [] [] (.one (.ref 0)) [.row 41 4 6 (ga encTm Pn.cls)] := by
  refine V.FnR.mk_ V.Tok V.mixed Try.func49 rfl Try.ntmps49 (by kernel_rfl) rfl rfl rfl rfl ?_
  repeat' ((conv => whnf); first | refine V.NCond.mk ?_ | refine V.NIf.not_ ?_ | refine V.NIf.dec_ ?_ | refine V.a4 ?_ | refine V.a5 ?_ | refine V.NIf.mk (fun _ => ?_) (fun _ => ?_) | refine V.a7 ?_ | refine V.a8 ?_ | refine V.a9 ?_ | refine V.NBoth.mk ?_ ?_ | refine V.b1 ?_ | refine V.b2 ?_ | refine V.NTF.dec ?_ | refine V.b3 ?_ | refine V.b4 ?_ | (refine NMake.mk ⟨6, 6, rfl, rfl, by omega, by omega, by first | omega | decide | (simp; done) | (simp; omega), ?_⟩) | (refine V.NDraw.any (by kernel_rfl) ?_) | fail)
  all_goals (conv => whnf)
  refine V.NLoop.auto (fun (k : Nat) => [(2, .one (.val (.int .i64 k))), (1, .one (.ref 1))]) (fun (k : Nat) => [(1, .row 41 4 6 fun j => encTm (if j < k then tm0 else (⟨0, 0, 0, 0⟩ : Tm)))]) [] [] (fun (k : Nat) => 6 - k) (fun (k : Nat) => k ≤ 6) 0 (Nat.zero_le _) V.S_ (by (conv => whnf); exact ⟨⟨rfl, rfl, rfl, fun j hj => (congrArg encTm (show (if j < 0 then tm0 else (⟨0, 0, 0, 0⟩ : Tm)) = ⟨0, 0, 0, 0⟩ from if_neg (Nat.not_lt_zero j))).symm⟩, trivial⟩) (fun _ => ⟨rfl, rfl⟩) ?_; (conv => whnf); refine ⟨⟨rfl, rfl⟩, ?_⟩
  rintro k hk
  by_cases hlt : k < 6
  · repeat' ((conv => whnf); first | refine V.NCond.mk ?_ | refine V.NIf.not_ ?_ | refine V.NIf.dec_ ?_ | refine V.a4 ?_ | refine V.a5 ?_ | refine V.NIf.mk (fun _ => ?_) (fun _ => ?_) | refine V.a7 ?_ | refine V.a8 ?_ | refine V.a9 ?_ | refine V.NBoth.mk ?_ ?_ | refine V.b1 ?_ | refine V.b2 ?_ | refine V.NTF.dec ?_ | refine V.b3 ?_ | refine V.b4 ?_ | (first | refine V.Fn.k0 (v_someTerms) rfl ?_ | refine V.Fn.q0 (v_someTerms) rfl ?_ | refine V.Fn.a0 (v_someTerms) rfl ?_) | (refine NIdx.mk ⟨k, rfl, by omega, ?_⟩) | (refine NPut.mk ⟨fun j => encTm (if j < k + 1 then tm0 else (⟨0, 0, 0, 0⟩ : Tm)), ?_, ?_⟩) | (refine V.NDraw.any (by kernel_rfl) ?_) | fail)
    all_goals (conv => whnf)
    · intro j hj
      by_cases e : j = k
      · rw [if_pos e]; exact congrArg encTm (if_pos (by omega))
      · rw [if_neg e]
        by_cases e2 : j < k
        · exact congrArg encTm ((if_pos (by omega)).trans (if_pos e2).symm)
        · exact congrArg encTm ((if_neg (by omega)).trans (if_neg e2).symm)
    · exact V.NBack.at_ (k + 1) [] (by omega) (by omega) V.S_ rfl ⟨⟨rfl, rfl, rfl, fun _ _ => rfl⟩, trivial⟩ V.S_ V.S_
  obtain rfl : k = 6 := by omega
  repeat' ((conv => whnf); first | refine V.NCond.mk ?_ | refine V.NIf.not_ ?_ | refine V.NIf.dec_ ?_ | refine V.a4 ?_ | refine V.a5 ?_ | refine V.NIf.mk (fun _ => ?_) (fun _ => ?_) | refine V.a7 ?_ | refine V.a8 ?_ | refine V.a9 ?_ | refine V.NBoth.mk ?_ ?_ | refine V.b1 ?_ | refine V.b2 ?_ | refine V.NTF.dec ?_ | refine V.b3 ?_ | refine V.b4 ?_ | (refine V.NDraw.any (by kernel_rfl) ?_) | fail)
  all_goals (conv => whnf)
  exact NRet.mk_ [some 1] rfl rfl ⟨⟨rfl, rfl, rfl, fun j hj => congrArg encTm ((if_pos hj).trans (Pn.rep_at tm0 default hj).symm)⟩, trivial⟩
theorem v_tenEach : V.FnR Try.prog 50 [] [] (.one (.ref 0)) [.row 3 1 20 (ga e1 Pn.tens)] := by
  refine V.FnR.mk_ V.Tok V.mixed Try.func50 rfl Try.ntmps50 (by kernel_rfl) rfl rfl rfl rfl ?_
  repeat' ((conv => whnf); first | refine V.NCond.mk ?_ | refine V.NIf.not_ ?_ | refine V.NIf.dec_ ?_ | refine V.a4 ?_ | refine V.a5 ?_ | refine V.NIf.mk (fun _ => ?_) (fun _ => ?_) | refine V.a7 ?_ | refine V.a8 ?_ | refine V.a9 ?_ | refine V.NBoth.mk ?_ ?_ | refine V.b1 ?_ | refine V.b2 ?_ | refine V.NTF.dec ?_ | refine V.b3 ?_ | refine V.b4 ?_ | (refine NMake.mk ⟨20, 20, rfl, rfl, by omega, by omega, by first | omega | decide | (simp; done) | (simp; omega), ?_⟩) | (refine V.NDraw.any (by kernel_rfl) ?_) | fail)
  all_goals (conv => whnf)
  refine V.NLoop.auto (fun (k : Nat) => [(2, .one (.val (.int .i64 k))), (1, .one (.ref 1))]) (fun (k : Nat) => [(1, .row 3 1 20 fun j => e1 (if j < k then 100000 else 0))]) [] [] (fun (k : Nat) => 20 - k) (fun (k : Nat) => k ≤ 20) 0 (Nat.zero_le _) V.S_ (by (conv => whnf); exact ⟨⟨rfl, rfl, rfl, fun j hj => (congrArg e1 (if_neg (Nat.not_lt_zero j))).symm⟩, trivial⟩) (fun _ => ⟨rfl, rfl⟩) ?_; (conv => whnf); refine ⟨⟨rfl, rfl⟩, ?_⟩
  rintro k hk
  by_cases hlt : k < 20
  · repeat' ((conv => whnf); first | refine V.NCond.mk ?_ | refine V.NIf.not_ ?_ | refine V.NIf.dec_ ?_ | refine V.a4 ?_ | refine V.a5 ?_ | refine V.NIf.mk (fun _ => ?_) (fun _ => ?_) | refine V.a7 ?_ | refine V.a8 ?_ | refine V.a9 ?_ | refine V.NBoth.mk ?_ ?_ | refine V.b1 ?_ | refine V.b2 ?_ | refine V.NTF.dec ?_ | refine V.b3 ?_ | refine V.b4 ?_ | (refine NIdx.mk ⟨k, rfl, by omega, ?_⟩) | (refine NPut.mk ⟨fun j => e1 (if j < k + 1 then 100000 else 0), ?_, ?_⟩) | (refine V.NDraw.any (by kernel_rfl) ?_) | fail)
    all_goals (conv => whnf)
    · intro j hj
      by_cases e : j = k
      · rw [if_pos e]; exact congrArg e1 (if_pos (by omega))
      · rw [if_neg e]
        by_cases e2 : j < k
        · exact congrArg e1 ((if_pos (by omega)).trans (if_pos e2).symm)
        · exact congrArg e1 ((if_neg (by omega)).trans (if_neg e2).symm)
    · exact V.NBack.at_ (k + 1) [] (by omega) (by omega) V.S_ rfl ⟨⟨rfl, rfl, rfl, fun _ _ => rfl⟩, trivial⟩ V.S_ V.S_
  obtain rfl : k = 20 := by omega
  repeat' ((conv => whnf); first | refine V.NCond.mk ?_ | refine V.NIf.not_ ?_ | refine V.NIf.dec_ ?_ | refine V.a4 ?_ | refine V.a5 ?_ | refine V.NIf.mk (fun _ => ?_) (fun _ => ?_) | refine V.a7 ?_ | refine V.a8 ?_ | refine V.a9 ?_ | refine V.NBoth.mk ?_ ?_ | refine V.b1 ?_ | refine V.b2 ?_ | refine V.NTF.dec ?_ | refine V.b3 ?_ | refine V.b4 ?_ | (refine V.NDraw.any (by kernel_rfl) ?_) | fail)
  all_goals (conv => whnf)
  exact NRet.mk_ [some 1] rfl rfl ⟨⟨rfl, rfl, rfl, fun j hj => congrArg e1 ((if_pos hj).trans (Pn.rep_at 100000 default hj).symm)⟩, trivial⟩
end Go.Proofs.Ytdeekpcfmgfmcaa

/- Plain facts on what lateness costs: a day and a sum that are looked at in any case. -/
namespace Go.Proofs.Ytdeekpcfmgfmcaa
set_option linter.unusedVariables false
set_option maxRecDepth 100000
namespace Pn
def f1 : Fl := ⟨7, 1, 2, 0, 3, 739935, 3000, 0, 0, 0⟩
def d1 : List Du := [⟨1, 2, 3⟩]
theorem t_cls : tE cls = 0 := tE_of (by decide) fun x hx => by rw [List.eq_of_mem_replicate hx]; decide
theorem p_tens : P.chks tens = 0 := P.chks_of (by decide) fun p hp => by rw [List.eq_of_mem_replicate hp]; decide
theorem w_chk : Ca.chk Ca.W = 0 := by decide
theorem o_yes : oE Ca.W 739937 = 0 := oE_yes w_chk ⟨by decide, by decide⟩
theorem o_no : oE Ca.W 739936 = 4 := oE_4 w_chk (by decide) (by decide)
theorem f1_ok : F.checks [f1] = 0 := by decide
theorem f1_e : Ag.sE Ca.W Ag.A f1 739937 = 0 := Ag.sE_of (by decide) (by decide) (by decide) (by decide) (by exact Ag.a_th)
theorem f1_s : Ag.sV Ca.W Ag.A f1 739937 = 1 := (Ag.sV_yes f1_e).trans (((Ag.stg_is f1_e).2 (by decide)).2.1 (by decide) (by rw [show f1.day = 739935 from rfl, Ag.a_1]; decide))
theorem f1_q : qF cls tens f1 = 3 := by
  show cs (F.left f1) (P.pr tens f1.pa) (cl cls f1).ra = 3
  rw [show F.left f1 = 3000 by decide, show P.pr tens f1.pa = 100000 from rep_at 100000 default (by decide), show cl cls f1 = tm0 from rep_at tm0 default (by decide)]
  decide
theorem y_1 : yD Ca.W cls [f1] tens 739937 = 0 ∧ yL Ca.W cls [f1] tens 739937 = d1 := by
  have hc : cl cls f1 = Ag.A := rep_at tm0 default (by decide)
  have e : eF Ca.W cls 739937 f1 = 0 := by show Ag.sE Ca.W (cl cls f1) f1 739937 = 0; rw [hc]; exact f1_e
  have y := y_yes (c := Ca.W) (t := cls) (l := [f1]) (ps := tens) (n := 739937) (yE_of ⟨w_chk, t_cls, f1_ok, p_tens, o_yes⟩) (fb_yes fun d hd => by rw [List.mem_singleton] at hd; rw [hd]; exact e)
  refine ⟨y.1, y.2.trans ?_⟩
  show du1 Ca.W cls tens 739937 f1 ++ [] = d1
  rw [du1_yes (by rw [hc, f1_s]; exact ⟨by decide, by decide⟩) (by rw [f1_q]; decide), f1_q]
  rfl
theorem y_2 : yD Ca.W cls [] tens 739936 = 4 ∧ yL Ca.W cls [] tens 739936 = [] := by
  have e : yE Ca.W cls [] tens 739936 = 4 := (yE_5 w_chk t_cls (by decide) p_tens).trans o_no
  have y := y_no (c := Ca.W) (t := cls) (l := []) (ps := tens) (n := 739936) (by omega)
  exact ⟨y.1.trans e, y.2⟩
theorem s_1 : suE d1 = 0 ∧ suL d1 = [⟨1, 0, -3⟩, ⟨2, 0, 3⟩] := by decide
theorem s_2 : suE [] = 5 ∧ suL [] = [] := by decide
end Pn
end Go.Proofs.Ytdeekpcfmgfmcaa

/- What must be in any case, of penalties. -/
namespace Go.Proofs.Ytdeekpcfmgfmcaa
open Go Go.RowKit V
set_option maxRecDepth 100000
set_option linter.unusedVariables false
theorem v_week : V.FnR Try.prog 48 [] [] (.agg [.val (.int .i64 96), .ref 0]) [.row 3 1 1 (ga e1 [739936])] := by
  refine V.FnR.mk_ V.Tok V.mixed Try.func48 rfl Try.ntmps48 (by kernel_rfl) rfl rfl rfl rfl ?_
  repeat' ((conv => whnf); first | refine V.NCond.mk ?_ | refine V.NIf.not_ ?_ | refine V.NIf.dec_ ?_ | refine V.a4 ?_ | refine V.a5 ?_ | refine V.NIf.mk (fun _ => ?_) (fun _ => ?_) | refine V.a7 ?_ | refine V.a8 ?_ | refine V.a9 ?_ | refine V.NBoth.mk ?_ ?_ | refine V.b1 ?_ | refine V.b2 ?_ | refine V.NTF.dec ?_ | refine V.b3 ?_ | refine V.b4 ?_ | (refine V.NDraw.any (by kernel_rfl) ?_) | fail)
  all_goals (conv => whnf)
  exact NRet.mk_ [some 1] rfl ⟨rfl, rfl, trivial⟩ ⟨⟨rfl, rfl, rfl, Nat.one_pos, V.S_⟩, trivial⟩
set_option maxHeartbeats 4000000 in
theorem v_penBegun : V.Fn Try.prog 13 [] [] (.bool true) := by
  have c0 := v_daily 3000 100000 100
  rw [show Pn.dV 3000 100000 100 = 3 by decide, show Pn.dE 3000 100000 100 = 0 by decide] at c0
  have c1 := v_day Ca.W Pn.cls [Pn.f1] Pn.tens 739937 (by decide) (by decide) (by decide)
  rw [Pn.y_1.1, Pn.y_1.2] at c1
  have c2 := v_psum Pn.d1 (by decide)
  rw [Pn.s_1.1, Pn.s_1.2] at c2
  have c3 := v_day Ca.W Pn.cls [] Pn.tens 739936 (by decide) (by decide) (by decide)
  rw [Pn.y_2.1, Pn.y_2.2] at c3
  have c4 := v_psum [] (by decide)
  rw [Pn.s_2.1, Pn.s_2.2] at c4
  have c5 := v_samedues Pn.d1 Pn.d1 (by decide)
  have c6 := v_sameposts [⟨1, 0, -3⟩, ⟨2, 0, 3⟩] [⟨1, 0, -3⟩, ⟨2, 0, 3⟩] (by decide)
  have c7 := v_prices [] (by decide)
  refine V.Fn.mk_ V.Tok V.mixed Try.func13 rfl Try.ntmps13 (by kernel_rfl) rfl rfl ?_
  repeat' ((conv => whnf); first | (refine V.NIf.yes ?_ ?_; · (decide; done)) | (refine V.NIf.no ?_ ?_; · (decide; done)) | refine V.NCond.mk ?_ | refine V.NIf.not_ ?_ | refine V.NIf.dec_ ?_ | refine V.a4 ?_ | refine V.a5 ?_ | refine V.NIf.mk (fun _ => ?_) (fun _ => ?_) | refine V.a7 ?_ | refine V.a8 ?_ | refine V.a9 ?_ | refine V.NBoth.mk ?_ ?_ | refine V.b1 ?_ | refine V.b2 ?_ | refine V.NTF.dec ?_ | refine V.b3 ?_ | refine V.b4 ?_ | (first | refine V.Fn.k0 (c0) rfl ?_ | refine V.Fn.q0 (c0) rfl ?_ | refine V.Fn.a0 (c0) rfl ?_) | (first | refine V.Fn.k0 (v_some) rfl ?_ | refine V.Fn.q0 (v_some) rfl ?_ | refine V.Fn.a0 (v_some) rfl ?_) | (first | refine V.FnR.k0 (v_week) rfl ?_ | refine V.FnR.a0 (v_week) rfl ?_) | (first | refine V.FnR.k0 (v_classes) rfl ?_ | refine V.FnR.a0 (v_classes) rfl ?_) | (first | refine V.FnR.k0 (v_tenEach) rfl ?_ | refine V.FnR.a0 (v_tenEach) rfl ?_) | ((first | refine V.FnR.k_ (c1) [1, 2, 3, 4] rfl ?_ ?_ | refine V.FnR.a_ (c1) [1, 2, 3, 4] rfl ?_ ?_); · exact V.D_) | ((first | refine V.FnR.k_ (c1) [1, 2, 4, 3] rfl ?_ ?_ | refine V.FnR.a_ (c1) [1, 2, 4, 3] rfl ?_ ?_); · exact V.D_) | ((first | refine V.FnR.k_ (c1) [1, 3, 2, 4] rfl ?_ ?_ | refine V.FnR.a_ (c1) [1, 3, 2, 4] rfl ?_ ?_); · exact V.D_) | ((first | refine V.FnR.k_ (c1) [2, 3, 1, 4] rfl ?_ ?_ | refine V.FnR.a_ (c1) [2, 3, 1, 4] rfl ?_ ?_); · exact V.D_) | ((first | refine V.FnR.k_ (c2) [5] rfl ?_ ?_ | refine V.FnR.a_ (c2) [5] rfl ?_ ?_); · exact V.D_) | ((first | refine V.FnR.k_ (c3) [7, 8, 10, 9] rfl ?_ ?_ | refine V.FnR.a_ (c3) [7, 8, 10, 9] rfl ?_ ?_); · exact V.D_) | ((first | refine V.FnR.k_ (c4) [12] rfl ?_ ?_ | refine V.FnR.a_ (c4) [12] rfl ?_ ?_); · exact V.D_) | ((first | refine V.Fn.k (c5) [5, 14] rfl ?_ ?_ | refine V.Fn.q (c5) [5, 14] rfl ?_ ?_ | refine V.Fn.a (c5) [5, 14] rfl ?_ ?_); · exact V.D_) | ((first | refine V.Fn.k (c6) [6, 15] rfl ?_ ?_ | refine V.Fn.q (c6) [6, 15] rfl ?_ ?_ | refine V.Fn.a (c6) [6, 15] rfl ?_ ?_); · exact V.D_) | ((first | refine V.Fn.k (c7) [16] rfl ?_ ?_ | refine V.Fn.q (c7) [16] rfl ?_ ?_ | refine V.Fn.a (c7) [16] rfl ?_ ?_); · exact V.D_) | (refine NCall.nil_ (f := 10) 2 10 rfl ?_) | (refine NCall.nil_ (f := 22) 0 3 rfl ?_) | (refine NCall.nil_ (f := 14) 0 1 rfl ?_) | (refine V.NDraw.any (by kernel_rfl) ?_) | fail)
  all_goals (conv => whnf)
  all_goals exact ⟨true, rfl, iff_of_true (by decide) rfl⟩
end Go.Proofs.Ytdeekpcfmgfmcaa

/- Plain facts on how parties stand: all together stand at nothing. -/
namespace Go.Proofs.Ytdeekpcfmgfmcaa
set_option linter.unusedVariables false
set_option linter.unusedSimpArgs false
namespace Nt
/-- the sum of a function's values below n -/
def up (f : Nat → Int) (n : Nat) : Int := M.sum ((List.range n).map f)
theorem up_succ (f : Nat → Int) (n : Nat) : up f (n + 1) = up f n + f n := by
  unfold up; rw [List.range_succ, List.map_append, M.sum_append]; simp [M.sum]
theorem up_add (f g : Nat → Int) : ∀ n, up (fun p => f p + g p) n = up f n + up g n
  | 0 => rfl
  | n + 1 => by rw [up_succ, up_succ, up_succ, up_add f g n]; omega
theorem up_ext {f g : Nat → Int} : ∀ {n : Nat}, (∀ p, p < n → f p = g p) → up f n = up g n
  | 0, _ => rfl
  | n + 1, h => by rw [up_succ, up_succ, up_ext fun p hp => h p (by omega), h n (by omega)]
theorem up_at (x a : Int) (h : 0 ≤ x) : ∀ n : Nat, up (fun p => if x = (p : Int) then a else 0) n = if x < n then a else 0
  | 0 => by rw [if_neg (by omega)]; rfl
  | n + 1 => by
    rw [up_succ, up_at x a h n]
    by_cases e : x = (n : Int)
    · rw [if_neg (by omega), if_pos e, if_pos (by omega)]; omega
    · rw [if_neg e]
      by_cases k : x < n
      · rw [if_pos k, if_pos (by omega)]; omega
      · rw [if_neg k, if_neg (by omega)]; rfl
theorem sums_up (l : List Du) (n : Nat) : M.sum (sums l n) = up (fun p => M.sum (part l p)) n := rfl
theorem one_sum (p : Nat) (d : Du) : M.sum (one p d) = (if d.fr = (p : Int) then -d.am else 0) + (if d.to = (p : Int) then d.am else 0) := by
  unfold one
  rw [M.sum_append]
  split <;> split <;> simp [M.sum]
theorem part_cons (d : Du) (r : List Du) (p : Nat) : M.sum (part (d :: r) p) = M.sum (one p d) + M.sum (part r p) := by
  rw [show part (d :: r) p = one p d ++ part r p from rfl, M.sum_append]
theorem sum_nothing : ∀ {l : List Du}, (∀ d ∈ l, N.ck1 d = 0) → M.sum (sums l 31) = 0
  | [], _ => by decide
  | d :: r, h => by
    obtain ⟨h1, h2, h3, h4⟩ := N.ck_ok (h d (by simp))
    have ih := sum_nothing (l := r) fun x hx => h x (by simp [hx])
    rw [sums_up] at ih ⊢
    rw [up_ext (g := fun p => ((if d.fr = (p : Int) then -d.am else 0) + (if d.to = (p : Int) then d.am else 0)) + M.sum (part r p)) fun p _ => by rw [part_cons, one_sum]]
    rw [up_add, ih, up_add, up_at _ _ h1.1, up_at _ _ h2.1, if_pos (by omega), if_pos (by omega)]
    omega
theorem st_sum {l : List Du} (h : stE l = 0) : N.chk l = 0 ∧ Wide l ∧ st l = sums l 31 ∧ M.sum (st l) = 0 := by
  have e : st l = sums l 31 := if_pos h
  have c : N.chk l = 0 := by
    unfold stE at h
    split at h
    · exact absurd h (by assumption)
    · omega
  have w : Wide l := by
    apply Classical.byContradiction
    intro z
    rw [stE_no c z] at h
    cases h
  exact ⟨c, w, e, by rw [e]; exact sum_nothing (N.chk_ok c).2⟩
theorem st_at {l : List Du} (h : stE l = 0) {p : Nat} (hp : p < 31) : (st l).getD p default = M.sum (part l p) := by
  rw [(st_sum h).2.2.1]
  unfold sums
  simp [List.getD, hp]
end Nt
end Go.Proofs.Ytdeekpcfmgfmcaa

/- Plain facts on what all pay in sum: it can be posted. -/
namespace Go.Proofs.Ytdeekpcfmgfmcaa
set_option linter.unusedVariables false
set_option linter.unusedSimpArgs false
namespace Pn
theorem po_amu (p : Nat) (n : Int) (u : Nat) : M.sum (Bk.amu (po p n) u) = if u = 0 then n else 0 := by
  by_cases h : n = 0
  · rw [po_no h]
    subst h
    simp [Bk.amu, M.sum]
  · rw [po_yes h]
    by_cases e : u = 0
    · subst e
      simp [Bk.amu, M.sum]
    · rw [if_neg e]
      unfold Bk.amu
      rw [List.filter_cons_of_neg (by simp; omega)]
      rfl
theorem amu_app (a b : List Po) (u : Nat) : Bk.amu (a ++ b) u = Bk.amu a u ++ Bk.amu b u := by
  unfold Bk.amu; rw [List.filter_append, List.map_append]
theorem pos_amu (s : List Int) (u : Nat) : ∀ k, M.sum (Bk.amu (pos s k) u) = if u = 0 then Nt.up (fun p => s.getD p default) k else 0
  | 0 => by split <;> rfl
  | k + 1 => by
    rw [pos_snoc, amu_app, M.sum_append, pos_amu s u k, po_amu, Nt.up_succ]
    split <;> rfl
theorem su_ok {l : List Du} (h : suE l = 0) : Nt.stE l = 0 ∧ (pos (Nt.st l) 31).length ≠ 0 ∧ suL l = pos (Nt.st l) 31 := by
  have e : suL l = pos (Nt.st l) 31 := if_pos h
  unfold suE at h
  split at h
  · exact absurd h (by assumption)
  · split at h
    · cases h
    · exact ⟨by omega, by assumption, e⟩
theorem pos_mem {s : List Int} {k : Nat} {p : Po} (h : p ∈ pos s k) : ∃ j, j < k ∧ p = ⟨j, 0, s.getD j default⟩ ∧ s.getD j default ≠ 0 := by
  unfold pos at h
  obtain ⟨j, hj, hp⟩ := List.mem_flatMap.1 h
  have hj := List.mem_range.1 hj
  by_cases e : s.getD j default = 0
  · rw [po_no e] at hp; simp at hp
  · rw [po_yes e, List.mem_singleton] at hp
    exact ⟨j, hj, hp, e⟩
theorem su_chk {l : List Du} (h : suE l = 0) : Bk.chk (suL l) = 0 := by
  obtain ⟨h1, h2, h3⟩ := su_ok h
  obtain ⟨s1, s2, s3, s4⟩ := Nt.st_sum h1
  have n := pos_len (Nt.st l) 31
  rw [h3]
  refine Bk.chk_is (by omega) (fun p hp => ?_) ((Bk.even_iff _).2 fun u hu => ?_)
  · obtain ⟨j, hj, rfl, ne⟩ := pos_mem hp
    refine ⟨⟨⟨?_, ?_⟩, ?_, ?_⟩, ?_, ne⟩
    · show (0 : Int) ≤ (j : Int); omega
    · show (j : Int) ≤ 100; omega
    · show (0 : Int) ≤ 0; omega
    · show (0 : Int) ≤ 20; omega
    · show M.Amt ((Nt.st l).getD j default)
      rw [Nt.st_at h1 hj]
      exact s2 j hj
  · rw [pos_amu]
    split
    · rw [Nt.up_ext (g := fun p => M.sum (Nt.part l p)) fun p hp => Nt.st_at h1 hp, ← Nt.sums_up, ← s3]
      exact s4
    · rfl
end Pn
end Go.Proofs.Ytdeekpcfmgfmcaa

/- Functions that write a row that is handed to them (and nothing else): contracts, also for those that call themselves. The row is object 0; whatever other objects there are stand behind it, untouched. -/
namespace Go.Proofs.Ytdeekpcfmgfmcaa.V
open Go Go.RowKit
set_option linter.unusedVariables false
set_option linter.unusedSimpArgs false
/-- entries for object 0 alone -/
def allz : Obs → Bool
  | [] => true
  | (i, _) :: r => Nat.beq i 0 && allz r
theorem fnd_allz : ∀ {L O : Obs} {i : Nat}, allz L = true → i ≠ 0 → fnd (L ++ O) i = fnd O i
  | [], O, i, _, _ => rfl
  | (j, o) :: r, O, i, h, hi => by
    unfold allz at h
    simp only [Bool.and_eq_true] at h
    have hj := Nat.eq_of_beq_eq_true h.1
    subst hj
    have : Nat.beq 0 i = false := by
      cases hb : Nat.beq 0 i
      · rfl
      · exact absurd (Nat.eq_of_beq_eq_true hb).symm hi
    have ih := fnd_allz (O := O) h.2 hi
    refine Eq.trans ?_ ih
    show fnd ((0, o) :: (r ++ O)) i = _
    conv => lhs; unfold fnd
    rw [this]
theorem fnd_app0 : ∀ {L O : Obs} {i : Nat} {o : Ob}, fnd L i = some o → fnd (L ++ O) i = some o
  | [], O, i, o, h => by cases h
  | (j, u) :: r, O, i, o, h => by
    show fnd ((j, u) :: (r ++ O)) i = some o
    unfold fnd at h ⊢
    cases hb : Nat.beq j i <;> rw [hb] at h
    · exact fnd_app0 h
    · exact h
/-- no object 0, and none twice -/
def onceB : Obs → Bool
  | [] => true
  | (i, _) :: r => (match fnd r i with | none => true | some _ => false) && !Nat.beq i 0 && onceB r
/-- the objects behind the row -/
structure Tail (nx : Nat) (O : Obs) : Prop where
  b : obsB nx O = true
  s : ∀ L : Obs, allz L = true → ObsLe (sgm []) (L ++ O) O
theorem once_le {L : Obs} (hL : allz L = true) {A : Obs} : ∀ {O : Obs}, onceB O = true → (∀ i o, fnd O i = some o → fnd A i = some o) → ObsLe (sgm []) (L ++ A) O
  | [], _, _ => trivial
  | (i, o) :: r, h, e => by
    unfold onceB at h
    simp only [Bool.and_eq_true, Bool.not_eq_true'] at h
    obtain ⟨⟨h1, h2⟩, h3⟩ := h
    have hi : i ≠ 0 := fun q => by subst q; rw [Nat.beq_refl] at h2; cases h2
    refine ⟨?_, once_le hL h3 fun j u hj => ?_⟩
    · have t : fnd ((i, o) :: r) i = some o := fnd_top
      have := e i o t
      rw [← fnd_allz (L := L) hL hi] at this
      exact fndK_of this (by rw [renO_nil]; exact ObLe.refl o)
    · refine e j u ?_
      have hne : j ≠ i := fun q => by subst q; rw [hj] at h1; cases h1
      exact fndK_skip hne hj
theorem Tail.of {nx : Nat} {O : Obs} (h1 : obsB nx O = true) (h2 : onceB O = true) : Tail nx O := ⟨h1, fun L hL => once_le hL h2 fun _ _ q => q⟩
theorem Tail.row {nx : Nat} {O L : Obs} (h : Tail nx O) {t s n : Nat} {g g' : Nat → List Value} (hL : allz L = true) (hr : fnd L 0 = some (.row t s n g)) (e : ∀ k, k < n → g k = g' k) : ObsLe (sgm []) (L ++ O) ((0, .row t s n g') :: O) :=
  ⟨fndK_of (fnd_app0 hr) ⟨rfl, rfl, rfl, e⟩, h.s L hL⟩
theorem Tail.bz {nx : Nat} {O : Obs} (h : Tail (nx + 1) O) (t s n : Nat) (g : Nat → List Value) : obsB (nx + 1) ((0, .row t s n g) :: O) = true := by
  have := h.b
  unfold obsB at this ⊢
  rw [List.all_cons, this]
  rfl
/-- the end: the row holds g, of which Q is told -/
structure FEnd (t s n nx : Nat) (O : Obs) (Q : (Nat → List Value) → Prop) (v : SV) (obs : Obs) (nx' : Nat) : Prop where
  h : v = .tup [] ∧ nx' = nx ∧ ∃ L g, obs = L ++ O ∧ allz L = true ∧ fnd L 0 = some (.row t s n g) ∧ Q g
structure FOne (t s n nx : Nat) (O : Obs) (Q : (Nat → List Value) → Prop) (v : SV) (obs : Obs) (nx' : Nat) : Prop where
  h : v = .tup [] ∧ nx' = nx ∧ ∃ g, obs = (0, .row t s n g) :: O ∧ Q g
/-- A CONTRACT of a function that writes the row that is object 0: Q is told of what the row holds then -/
def Fam (P : Program) (f : FuncId) (args : List SV) (t s n : Nat) (get : Nat → List Value) (nx : Nat) (O : Obs) (Q : (Nat → List Value) → Prop) : Prop :=
  NCall P f args ((0, .row t s n get) :: O) (nx + 1) (FOne t s n (nx + 1) O Q)
theorem NCall.mono {P : Program} {f : FuncId} {args : List SV} {obs : Obs} {nx : Nat} {K K' : SV → Obs → Nat → Prop} (h : NCall P f args obs nx K) (m : ∀ v o n, K v o n → K' v o n) : NCall P f args obs nx K' :=
  ⟨h.b, fun B ρ w xs hC ha => (h.h B ρ w xs hC ha).mono fun e w' ⟨v, o, n, ρ', x, hK, r⟩ => ⟨v, o, n, ρ', x, m _ _ _ hK, r⟩⟩
theorem cut_id {B nx : Nat} {ρ : Rho} {obs : Obs} {w : World} (hC : Cls B ρ obs nx w) : cut nx (via (sgm []) ρ) = ρ := by
  funext i
  unfold cut via
  by_cases h : i < nx
  · rw [if_pos h]; rfl
  · rw [if_neg h, hC.new i (by omega)]
theorem Fam.mk {P : Program} {f : FuncId} {args : List SV} {t s n nx : Nat} {get : Nat → List Value} {O : Obs} {Q : (Nat → List Value) → Prop} (hT : Tail (nx + 1) O)
    (h : NCall P f args ((0, .row t s n get) :: O) (nx + 1) (FEnd t s n (nx + 1) O Q)) : Fam P f args t s n get nx O Q :=
  ⟨h.b, fun B ρ w xs hC ha => (h.h B ρ w xs hC ha).mono fun e w' ⟨v, o, m, ρ', x, hK, hx, he, hv, hC', hb, ho⟩ => by
    obtain ⟨rfl, rfl, L, g, rfl, hL, hr, hQ⟩ := hK.h
    have c := hC'.head (hT.row hL hr fun _ _ => rfl) (hT.bz t s n g) (injB_id _)
    rw [cut_id hC'] at c
    exact ⟨_, _, _, ρ', x, ⟨rfl, rfl, g, rfl, hQ⟩, hx, he, hv, c, hb, ho⟩⟩
/-- its use within such a function -/
theorem Fam.use {P : Program} {f : FuncId} {args : List SV} {t s n nx : Nat} {get : Nat → List Value} {O : Obs} {Q : (Nat → List Value) → Prop} (h : Fam P f args t s n get nx O Q) (hT : Tail (nx + 1) O) {obs : Obs} (L : Obs) {K : SV → Obs → Nat → Prop} {g : Nat → List Value}
    (ho : obs = L ++ O) (hL : allz L = true) (hr : fnd L 0 = some (.row t s n g)) (e : ∀ k, k < n → g k = get k) (hK : ∀ g', Q g' → K (.tup []) ((0, .row t s n g') :: O) (nx + 1)) : NCall P f args obs (nx + 1) K := by
  subst ho
  refine ⟨h.b, fun B ρ w xs hC ha => ?_⟩
  have c := hC.head (hT.row hL hr e) (hT.bz t s n get) (injB_id _)
  rw [cut_id hC] at c
  refine (h.h B ρ w xs c ha).mono ?_
  rintro e' w' ⟨v, o, m, ρ', x, hK', r⟩
  obtain ⟨rfl, rfl, g', rfl, hQ⟩ := hK'.h
  exact ⟨_, _, _, ρ', x, hK g' hQ, r⟩
/-- a round's end -/
structure FBack {ι : Type} (nx t s n : Nat) (O : Obs) (chg : ι → Env) (base : Env) (get : ι → Nat → List Value) (μ : ι → Nat) (J : ι → Prop) (m : Nat) (env1 : Env) (obs1 : Obs) : Prop where
  h : ∃ i' l, J i' ∧ μ i' < m ∧ pinB (nx + 1) l = true ∧ injB (sgm l) (nx + 1) = true ∧ EnvLe (sgm l) env1 (chg i' ++ base) ∧ ObsLe (sgm l) obs1 ((0, .row t s n (get i')) :: O)
theorem FBack.at_ {ι : Type} {nx t s n : Nat} {O : Obs} {chg : ι → Env} {base : Env} {get : ι → Nat → List Value} {μ : ι → Nat} {J : ι → Prop} {m : Nat} {env1 : Env} {obs1 : Obs} (hT : Tail (nx + 1) O) (i' : ι) (L : Obs) {g : Nat → List Value} (h1 : J i') (h2 : μ i' < m) (h3 : EnvLe (sgm []) env1 (chg i' ++ base))
    (h4 : obs1 = L ++ O) (h5 : allz L = true) (h6 : fnd L 0 = some (.row t s n g)) (h7 : ∀ k, k < n → g k = get i' k) : FBack nx t s n O chg base get μ J m env1 obs1 := by
  subst h4
  exact ⟨⟨i', [], h1, h2, rfl, injB_id _, h3, hT.row h5 h6 h7⟩⟩
/-- a loop -/
theorem NLoop.fam {ws : List Nat} {nx : Nat} {body : Env → Obs → Nat → Kon → Prop} {env : Env} {obs : Obs} {K : Kon} {O : Obs} (hT : Tail (nx + 1) O) {ι : Type} (chg : ι → Env) (base : Env) (t s n : Nat) (get : ι → Nat → List Value) (μ : ι → Nat) (J : ι → Prop) (i0 : ι) (h0 : J i0)
    (L : Obs) {g : Nat → List Value} (ho : obs = L ++ O) (hL : allz L = true) (hr : fnd L 0 = some (.row t s n g)) (e : ∀ k, k < n → g k = get i0 k) (he : EnvLe (sgm []) env (chg i0 ++ base)) (hb : ∀ i, envB (nx + 1) (chg i) = true) (hb2 : envB (nx + 1) base = true)
    (h : ∀ i, J i → body (chg i ++ base) ((0, .row t s n (get i)) :: O) (nx + 1) fun e env1 obs1 nx1 => match e with
      | .nrm => FBack nx t s n O chg base get μ J (μ i) env1 obs1
      | .exit n => K (.exit n) env1 obs1 nx1
      | .ret => K .ret env1 obs1 nx1) : NLoop ws (nx + 1) body env obs (nx + 1) K := by
  subst ho
  refine ⟨⟨ι, fun i => (chg i ++ base, (0, .row t s n (get i)) :: O), μ, J, i0, nx + 1, Nat.le_refl _, h0, injB_id _, he, hT.row hL hr e, fun i => ⟨?_, hT.bz t s n _⟩, fun i hi => ?_⟩⟩
  · simp only [envB, List.all_append, Bool.and_eq_true]; exact ⟨hb i, hb2⟩
  · have := h i hi
    refine cast ?_ this
    congr 1
    funext e env1 obs1 nx1
    cases e
    · apply propext
      constructor
      · rintro ⟨q⟩; exact q
      · intro q; exact ⟨q⟩
    · rfl
    · rfl
theorem Svs.ren_ {σ : Nat → Nat} {ρ : Rho} {nx : Nat} : ∀ {l : List SV} {xs : List Value}, argB nx l = true → Svs ρ (l.map (renS σ)) xs → Svs (V.cut nx (via σ ρ)) l xs
  | [], _, _, h => h
  | v :: l, _, hb, ⟨x, r, e, hv, hr⟩ => by
    unfold argB at hb
    simp only [List.all_cons, Bool.and_eq_true] at hb
    refine ⟨x, r, e, ?_, Svs.ren_ (l := l) (by unfold argB; exact hb.2) hr⟩
    cases v with
    | one a => exact At.is_cut (a := a) hb.1 (SV.is_via (v := .one a) hb.1 hv)
    | agg c =>
      obtain ⟨cs, hc, e⟩ := hv
      exact ⟨cs, hc.via.cut hb.1, e⟩
    | tup l => exact hv.elim
/-- its use by a caller, whose objects bear other numbers: l changes them (and back) -/
theorem Fam.call {P : Program} {f : FuncId} {args : List SV} {t s n nx : Nat} {get : Nat → List Value} {O : Obs} {Q : (Nat → List Value) → Prop} (h : Fam P f args t s n get nx O Q) (hT : Tail (nx + 1) O) {obs : Obs} {args' : List SV} {K : SV → Obs → Nat → Prop} (l : List (Nat × Nat)) (obs2 : (Nat → List Value) → Obs)
    (ha : args' = args.map (renS (sgm l))) (hab : argB (nx + 1) args = true) (hi : injB (sgm l) (nx + 1) = true) (hinv : ∀ i, i < nx + 1 → sgm l i < nx + 1 ∧ sgm l (sgm l i) = i) (ho : ObsLe (sgm l) obs ((0, .row t s n get) :: O)) (hb2 : ∀ g', obsB (nx + 1) (obs2 g') = true)
    (ho2 : ∀ g', ObsLe (sgm l) ((0, .row t s n g') :: O) (obs2 g')) (hK : ∀ g', Q g' → K (.tup []) (obs2 g') (nx + 1)) : NCall P f args' obs (nx + 1) K := by
  subst ha
  refine ⟨h.b, fun B ρ w xs hC hxs => ?_⟩
  have c := hC.head ho (hT.bz t s n get) hi
  refine (h.h B _ w xs c (Svs.ren_ hab hxs)).mono ?_
  rintro e' w' ⟨v, o, m, ρ', x, hK', hx, he, hv, hC', hb, hoth⟩
  obtain ⟨rfl, rfl, g', rfl, hQ⟩ := hK'.h
  have c2 := hC'.head (ho2 g') (hb2 g') hi
  refine ⟨_, _, _, _, x, hK g' hQ, fun i y hy => ?_, he, ?_, c2, hb, hoth⟩
  · have hi' : i < nx + 1 := by
      rcases Nat.lt_or_ge i (nx + 1) with q | q
      · exact q
      · rw [hC.new i q] at hy; cases hy
    obtain ⟨q1, q2⟩ := hinv i hi'
    rw [cut_lt hi']
    refine hx _ _ ?_
    rw [cut_lt q1]
    unfold via
    rw [q2]
    exact hy
  · exact hv
end Go.Proofs.Ytdeekpcfmgfmcaa.V
