/- The laws' own helper on amounts. -/
import Derived.Test.YtbllokemalclbaaVMoney
namespace Go.Proofs.Ytbllokemalclbaa
open Go Go.RowKit V
set_option maxRecDepth 100000
set_option maxHeartbeats 2000000 in
theorem v_mbegun : V.Fn Try.prog 19 [] [] (.bool true) := by
  refine V.Fn.mk_ V.Tok V.mixed Try.func19 rfl Try.ntmps19 (by kernel_rfl) rfl rfl ?_
  repeat' ((conv => whnf); first | (refine V.NIf.yes (by decide) ?_) | refine V.NIf.not_ ?_ | refine V.NIf.dec_ ?_ | refine V.NIf.no (by omega) ?_ | refine V.NIf.yes (by omega) ?_ | refine V.NIf.mk (fun _ => ?_) (fun _ => ?_) | refine V.NWrap.ok (by omega) (by omega) ?_ | refine V.NWrap.u64 (by omega) (by omega) ?_ | refine V.NLt.mk (by omega) ?_ | refine V.NApp.one (by first | omega | (simp; omega)) (by first | omega | (simp; omega)) ?_ | (first | refine V.Fn.k0 (v_add 5 (-7)) rfl ?_ | refine V.Fn.q0 (v_add 5 (-7)) rfl ?_) | (first | refine V.Fn.k0 (v_part (-7) 3 5) rfl ?_ | refine V.Fn.q0 (v_part (-7) 3 5) rfl ?_) | (first | refine V.Fn.k0 (v_near 5 1 2) rfl ?_ | refine V.Fn.q0 (v_near 5 1 2) rfl ?_) | (first | refine V.Fn.k0 (v_near 7 1 2) rfl ?_ | refine V.Fn.q0 (v_near 7 1 2) rfl ?_) | ((first | refine V.Fn.k (v_total [1152921504606846976, 1152921504606846976, -1152921504606846976]) [_] rfl ?_ ?_ | refine V.Fn.q (v_total [1152921504606846976, 1152921504606846976, -1152921504606846976]) [_] rfl ?_ ?_); · ((repeat' (first | exact rfl | exact trivial | exact (fun _ _ => rfl) | exact (fun _ h => absurd h (Nat.not_lt_zero _)) | refine ⟨?_, ?_⟩ | exact Iff.rfl | exact congrArg (fun z => V.SV.one (V.At.val (Value.int .i64 z))) (by omega))); done)) | (first | refine V.Fn.k0 (v_add 1152921504606846976 1) rfl ?_ | refine V.Fn.q0 (v_add 1152921504606846976 1) rfl ?_) | (first | refine V.Fn.k0 (v_part 1 1 0) rfl ?_ | refine V.Fn.q0 (v_part 1 1 0) rfl ?_) | (first | refine V.Fn.k0 (v_check 1152921504606846977) rfl ?_ | refine V.Fn.q0 (v_check 1152921504606846977) rfl ?_) | fail)
  exact ⟨_, rfl, by decide⟩
namespace M
theorem add_c (a b : Int) : (addE a b = 0 ∧ addV a b = a + b ∧ (-1152921504606846976 ≤ a ∧ a ≤ 1152921504606846976) ∧ (-1152921504606846976 ≤ b ∧ b ≤ 1152921504606846976) ∧ -1152921504606846976 ≤ a + b ∧ a + b ≤ 1152921504606846976) ∨
    (addE a b = 3 ∧ addV a b = 0 ∧ ¬ ((-1152921504606846976 ≤ a ∧ a ≤ 1152921504606846976) ∧ -1152921504606846976 ≤ b ∧ b ≤ 1152921504606846976)) ∨
    (addE a b = 8 ∧ addV a b = 0 ∧ (-1152921504606846976 ≤ a ∧ a ≤ 1152921504606846976) ∧ (-1152921504606846976 ≤ b ∧ b ≤ 1152921504606846976) ∧ ¬ (-1152921504606846976 ≤ a + b ∧ a + b ≤ 1152921504606846976)) := by
  simp only [addE, addV, Amt]
  (repeat' split) <;> omega
theorem mul_bd {x y m n : Int} (hx : -m ≤ x ∧ x ≤ m) (hy : -n ≤ y ∧ y ≤ n) : -(m * n) ≤ x * y ∧ x * y ≤ m * n := by
  have h : (x * y).natAbs ≤ (m * n).natAbs := by
    rw [Int.natAbs_mul, Int.natAbs_mul]
    exact Nat.mul_le_mul (by omega) (by omega)
  have p : 0 ≤ m * n := Int.mul_nonneg (by omega) (by omega)
  omega
theorem pr_c (a b c : Int) : (prE a b c = 0 ∧ prQ a b c = a * b / c ∧ prR a b c = a * b % c ∧ (-1152921504606846976 ≤ a ∧ a ≤ 1152921504606846976) ∧ (0 ≤ b ∧ b ≤ 1099511627776) ∧ (1 ≤ c ∧ c ≤ 1099511627776) ∧ (-1152921504606846976 ≤ a * b / c ∧ a * b / c ≤ 1152921504606846976) ∧ (0 ≤ a * b % c ∧ a * b % c < c) ∧ prQ a b c * c + prR a b c = a * b) ∨
    (prE a b c = 3 ∧ prQ a b c = 0 ∧ prR a b c = 0 ∧ ¬ ((-1152921504606846976 ≤ a ∧ a ≤ 1152921504606846976) ∧ (0 ≤ b ∧ b ≤ 1099511627776) ∧ 1 ≤ c ∧ c ≤ 1099511627776)) ∨
    (prE a b c = 8 ∧ prQ a b c = 0 ∧ prR a b c = 0 ∧ ((-1152921504606846976 ≤ a ∧ a ≤ 1152921504606846976) ∧ (0 ≤ b ∧ b ≤ 1099511627776) ∧ 1 ≤ c ∧ c ≤ 1099511627776) ∧ ¬ (-1152921504606846976 ≤ a * b / c ∧ a * b / c ≤ 1152921504606846976)) := by
  have q := qr (a * b) c
  by_cases p : POk a b c
  · have r := r_bd (x := a * b) p.2.2.1
    by_cases k : Amt (a * b / c)
    · left; obtain ⟨e1, e2, e3⟩ := pr_3 p k; exact ⟨e1, e2, e3, p.1, p.2.1, p.2.2, k, r, by rw [e2, e3, Int.mul_comm]; exact q⟩
    · right; right; obtain ⟨e1, e2, e3⟩ := pr_2 p k; exact ⟨e1, e2, e3, p, k⟩
  · right; left; obtain ⟨e1, e2, e3⟩ := pr_1 p; exact ⟨e1, e2, e3, p⟩
theorem pr_mono {a b c d : Int} (h1 : prE a c d = 0) (h2 : prE b c d = 0) (h : a ≤ b) : prQ a c d ≤ prQ b c d := by
  obtain ⟨p, k⟩ := pr_ok h1
  obtain ⟨p', k'⟩ := pr_ok h2
  rw [(pr_3 p k).2.1, (pr_3 p' k').2.1]
  exact rises p.2.2.1 (Int.mul_le_mul_of_nonneg_right h p.2.1.1)
theorem pr_two {a b c d s : Int} (h1 : prE a c d = 0) (h2 : prE b c d = 0) (h3 : prE s c d = 0) (h : s = a + b) : prQ a c d + prQ b c d ≤ prQ s c d ∧ prQ s c d ≤ prQ a c d + prQ b c d + 1 := by
  obtain ⟨p, k⟩ := pr_ok h1
  obtain ⟨p', k'⟩ := pr_ok h2
  obtain ⟨p'', k''⟩ := pr_ok h3
  rw [(pr_3 p k).2.1, (pr_3 p' k').2.1, (pr_3 p'' k'').2.1, h, Int.add_mul]
  exact two p.2.2.1
theorem div_bd {x m c : Int} (h : -m ≤ x ∧ x ≤ m) (hc : 1 ≤ c) : -m ≤ x / c ∧ x / c ≤ m := by
  refine ⟨(Int.le_ediv_iff_mul_le (by omega)).2 ?_, Int.le_trans (Int.ediv_le_ediv (by omega) h.2) (Int.ediv_le_self _ (by omega))⟩
  have := Int.mul_le_mul_of_nonneg_left hc (show 0 ≤ m by omega)
  rw [Int.neg_mul]; omega
theorem pr_b (a b c : Int) : (prE a b c = 0 → (-1152921504606846976 ≤ prQ a b c ∧ prQ a b c ≤ 1152921504606846976) ∧ (0 ≤ prR a b c ∧ prR a b c < c) ∧ c ≤ 1099511627776) ∧ (prE a b c ≠ 0 → prQ a b c = 0 ∧ prR a b c = 0) := by
  have := pr_c a b c
  refine ⟨fun h => ?_, fun h => ?_⟩ <;> omega
theorem ne_c (a b c : Int) (h : prE a b c = 0) (k : neE a b c = 0) : neV a b c = up (prQ a b c) (prR a b c) c ∧ (-1152921504606846976 ≤ neV a b c ∧ neV a b c ≤ 1152921504606846976) := by
  obtain ⟨p, q⟩ := pr_ok h
  by_cases z : Amt (up (a * b / c) (a * b % c) c)
  · rw [(ne_3 h z).2, (pr_3 p q).2.1, (pr_3 p q).2.2]; exact ⟨rfl, z⟩
  · rw [(ne_2 h z).1] at k; omega
theorem ne_d (a b c : Int) (k : neE a b c ≠ 0) : neV a b c = 0 := by
  by_cases h : prE a b c = 0
  · by_cases z : Amt (up (a * b / c) (a * b % c) c)
    · exact absurd (ne_3 h z).1 k
    · exact (ne_2 h z).2
  · exact (ne_1 h).2
theorem ne_e {a b c : Int} (k : neE a b c = 0) : prE a b c = 0 := by
  by_cases h : prE a b c = 0
  · exact h
  · rw [(ne_1 h).1] at k; exact absurd k h
theorem ne_neg {a b c : Int} (h : neE a b c = 0) (k : neE (0 - a) b c = 0) : neV (0 - a) b c = -neV a b c := by
  have h1 := ne_e h
  have k1 := ne_e k
  obtain ⟨p, q⟩ := pr_ok h1
  obtain ⟨p', q'⟩ := pr_ok k1
  rw [(ne_c _ _ _ h1 h).1, (ne_c _ _ _ k1 k).1, (pr_3 p q).2.1, (pr_3 p q).2.2, (pr_3 p' q').2.1, (pr_3 p' q').2.2]
  have e : (0 - a) * b = -(a * b) := by rw [Int.zero_sub, Int.neg_mul]
  rw [e]
  exact near_neg p.2.2.1
theorem pr_scale {a b c y : Int} (h : prE a b c = 0) (h1 : 1 ≤ y) (k : prE a (b * y) (c * y) ≠ 3) : prE a (b * y) (c * y) = 0 ∧ prQ a (b * y) (c * y) = prQ a b c ∧ prR a (b * y) (c * y) = prR a b c * y := by
  obtain ⟨p, q⟩ := pr_ok h
  have e1 : a * (b * y) / (c * y) = a * b / c := by rw [← Int.mul_assoc]; exact Int.mul_ediv_mul_of_pos_left _ _ (by omega)
  have e2 : a * (b * y) % (c * y) = a * b % c * y := by rw [← Int.mul_assoc, Int.mul_comm _ y, Int.mul_comm c y, Int.mul_emod_mul_of_pos _ _ (by omega), Int.mul_comm]
  rcases pr_cases a (b * y) (c * y) with ⟨e, _⟩ | ⟨_, _, k'⟩ | ⟨e, p', k'⟩
  · exact absurd e k
  · rw [e1] at k'; exact absurd q k'
  · rw [(pr_3 p' k').2.1, (pr_3 p' k').2.2, (pr_3 p q).2.1, (pr_3 p q).2.2]; exact ⟨e, e1, e2⟩
theorem pr_nest {a b c d : Int} (h : prE a b c = 0) (h1 : 1 ≤ d) (h2 : d ≤ 1048576) (hc : c ≤ 1048576) (hcd : c * d ≤ 1099511627776 ∧ 1 ≤ c * d) : prE (prQ a b c) 1 d = 0 ∧ prE a b (c * d) = 0 ∧ prQ (prQ a b c) 1 d = prQ a b (c * d) := by
  obtain ⟨p, q⟩ := pr_ok h
  have eQ := (pr_3 p q).2.1
  have hc0 := p.2.2.1
  have e1 : a * b / (c * d) = a * b / c / d := (Int.ediv_ediv_of_nonneg (by omega)).symm
  have q1 : Amt (a * b / c / d) := div_bd q h1
  have p1 : POk (prQ a b c) 1 d := by rw [eQ]; exact ⟨q, by omega, by omega⟩
  have p2 : POk a b (c * d) := ⟨p.1, p.2.1, by omega, hcd.1⟩
  have q1' : Amt (prQ a b c * 1 / d) := by rw [eQ, Int.mul_one]; exact q1
  have q2 : Amt (a * b / (c * d)) := by rw [e1]; exact q1
  refine ⟨(pr_3 p1 q1').1, (pr_3 p2 q2).1, ?_⟩
  rw [(pr_3 p1 q1').2.1, (pr_3 p2 q2).2.1, e1, eQ, Int.mul_one]
end M
end Go.Proofs.Ytbllokemalclbaa
