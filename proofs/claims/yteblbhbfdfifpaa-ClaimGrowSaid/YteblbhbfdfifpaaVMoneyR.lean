/- What the document's answers on amounts are. -/
import Derived.Test.YteblbhbfdfifpaaVMoney
import Derived.Test.YteblbhbfdfifpaaMoneyPl2
namespace Go.Proofs.Yteblbhbfdfifpaa
open Go Go.RowKit V
set_option maxRecDepth 100000
set_option linter.unusedVariables false
namespace M
theorem chk0 {a : Int} : chk a = 0 ↔ (-1152921504606846976 ≤ a ∧ a ≤ 1152921504606846976) := ⟨chk_ok, chk_yes⟩
end M
namespace M
def poQ (a b c : Int) : Int := if 2305843009213693952 < a * b / c then -1 else a * b / c
def poR (a b c : Int) : Int := if 2305843009213693952 < a * b / c then 0 else a * b % c
theorem bit2 (b : Int) (m : Nat) : b / 2 ^ m = 2 * (b / 2 ^ (m + 1)) + b / 2 ^ m % 2 := by
  have p : (0 : Int) ≤ 2 ^ m := Int.le_of_lt (Int.pow_pos (by omega))
  rw [Int.pow_succ, ← Int.ediv_ediv_of_nonneg p]
  omega
theorem po1 {a b c q r t : Int} {m : Nat} (hJ : q * c + r = a * (b / 2 ^ (m + 1))) (ht : t = b / 2 ^ m % 2) (h1 : t = 1) : (2 * q + a / c + (2 * r + a % c) / c) * c + (2 * r + a % c) % c = a * (b / 2 ^ m) := by
  have h2 := qr a c
  have h3 := qr (2 * r + a % c) c
  have h4 := bit2 b m
  generalize b / 2 ^ m = X at *
  generalize b / 2 ^ (m + 1) = Y at *
  have h5 : X = 2 * Y + 1 := by omega
  clear h4 ht
  grind
theorem po0 {a b c q r t : Int} {m : Nat} (hJ : q * c + r = a * (b / 2 ^ (m + 1))) (ht : t = b / 2 ^ m % 2) (h0 : 0 ≤ t) (h2 : t < 2) (h1 : ¬ t = 1) : (2 * q + (2 * r) / c) * c + (2 * r) % c = a * (b / 2 ^ m) := by
  have h3 := qr (2 * r) c
  have h4 := bit2 b m
  generalize b / 2 ^ m = X at *
  generalize b / 2 ^ (m + 1) = Y at *
  have h5 : X = 2 * Y := by omega
  clear h4 ht
  grind
theorem po_big {a b c Q R : Int} {m : Nat} (ha : 0 ≤ a) (hb : 0 ≤ b) (hc : 1 ≤ c) (h : Q * c + R = a * (b / 2 ^ m)) (hR : 0 ≤ R) (hQ : 2305843009213693952 < Q) : -1 = poQ a b c ∧ 0 = poR a b c := by
  have h1 : b / 2 ^ m ≤ b := Int.ediv_le_self _ hb
  have h2 : a * (b / 2 ^ m) ≤ a * b := Int.mul_le_mul_of_nonneg_left h1 ha
  have h3 : Q ≤ a * b / c := (Int.le_ediv_iff_mul_le (by omega)).2 (by omega)
  unfold poQ poR
  rw [if_pos (by omega), if_pos (by omega)]; exact ⟨rfl, rfl⟩
theorem po_end {a b c q r : Int} (hc : 1 ≤ c) (h : q * c + r = a * (b / 2 ^ 0)) (hr : 0 ≤ r ∧ r < c) (hq : q ≤ 2305843009213693952) : q = poQ a b c ∧ r = poR a b c := by
  have e : b / 2 ^ 0 = b := by simp
  rw [e] at h
  have h1 : a * b / c = q := by
    rw [← h, Int.add_comm, Int.add_mul_ediv_right _ _ (by omega), Int.ediv_eq_zero_of_lt hr.1 hr.2]; omega
  have h2 : a * b % c = r := by
    rw [← h, Int.add_comm, Int.add_mul_emod_self_right]; exact Int.emod_eq_of_lt hr.1 hr.2
  unfold poQ poR
  rw [if_neg (by omega), if_neg (by omega), h1, h2]; exact ⟨rfl, rfl⟩
end M
set_option maxHeartbeats 1000000 in
theorem v_partOf (a b c : Int) (ha : 0 ≤ a ∧ a ≤ 1152921504606846976) (hb : 0 ≤ b ∧ b ≤ 1099511627776) (hc : 1 ≤ c ∧ c ≤ 1099511627776) : V.Fn Try.prog 36 [] [.one (.val (.int .i64 a)), .one (.val (.int .i64 b)), .one (.val (.int .i64 c))] (.tuple #[.int .i64 (M.poQ a b c), .int .i64 (M.poR a b c)]) := by
  refine V.Fn.mk_ V.Tok V.mixed Try.func36 rfl Try.ntmps36 (by kernel_rfl) rfl rfl ?_
  (conv => whnf)
  refine V.NLoop.auto (fun (⟨n, q, r⟩ : Nat × Int × Int) => [(8, .one (.val (.int .i64 q))), (9, .one (.val (.int .i64 r))), (10, .one (.val (.int .i64 ((n : Int) - 1))))]) (fun (⟨n, q, r⟩ : Nat × Int × Int) => []) [] [] (fun (⟨n, q, r⟩ : Nat × Int × Int) => n) (fun (⟨n, q, r⟩ : Nat × Int × Int) => n ≤ 41 ∧ q * c + r = a * (b / 2 ^ n) ∧ (0 ≤ r ∧ r < c) ∧ 0 ≤ q ∧ q ≤ 2305843009213693952) (41, 0, 0) ⟨by omega, (by rw [Int.ediv_eq_zero_of_lt (by omega) (by omega)]; omega), by omega, by omega⟩ (by repeat' (first | exact rfl | exact Iff.rfl | exact trivial | exact (fun _ _ => rfl) | exact (fun _ h => absurd h (Nat.not_lt_zero _)) | refine ⟨?_, ?_⟩ | exact Iff.rfl | exact congrArg (fun z => V.SV.one (V.At.val (Value.int .i64 z))) (by omega))) (by repeat' (first | exact rfl | exact Iff.rfl | exact trivial | exact (fun _ _ => rfl) | exact (fun _ h => absurd h (Nat.not_lt_zero _)) | refine ⟨?_, ?_⟩ | exact Iff.rfl | exact congrArg (fun z => V.SV.one (V.At.val (Value.int .i64 z))) (by omega))) (fun _ => ⟨rfl, rfl⟩) ?_; (conv => whnf); refine ⟨⟨rfl, rfl⟩, ?_⟩
  rintro ⟨n, q, r⟩ ⟨hn, hJ, hr, hq⟩
  cases n with
  | zero =>
    repeat' ((conv => whnf); first | refine V.NCond.mk ?_ | refine V.NIf.not_ ?_ | refine V.NIf.dec_ ?_ | refine V.NIf.no (by omega) ?_ | refine V.NIf.yes (by omega) ?_ | refine V.NIf.mk (fun _ => ?_) (fun _ => ?_) | refine V.NWrap.ok (by omega) (by omega) ?_ | refine V.NWrap.u64 (by omega) (by omega) ?_ | refine V.NLt.mk (by omega) ?_ | refine V.NBoth.mk ?_ ?_ | refine V.NTF.yes (by omega) ?_ | refine V.NTF.no (by omega) ?_ | refine V.NTF.dec ?_ | refine V.NDraw.q (by exact rfl) (by kernel_rfl) ?_ | refine V.NApp.one (by first | omega | (simp; omega)) (by first | omega | (simp; omega)) ?_ | (refine V.NDraw.any (by kernel_rfl) ?_) | fail)
    exact V.nif2 (M.po_end hc.1 hJ hr hq.2)
  | succ m =>
    repeat' ((conv => whnf); first | (refine NRem.pos (y := 2) (by omega) (by omega) ?_; intro t ht ht0 ht1) | refine V.NCond.mk ?_ | refine V.NIf.not_ ?_ | refine V.NIf.dec_ ?_ | refine V.NIf.no (by omega) ?_ | refine V.NIf.yes (by omega) ?_ | refine V.NIf.mk (fun _ => ?_) (fun _ => ?_) | refine V.NWrap.ok (by omega) (by omega) ?_ | refine V.NWrap.u64 (by omega) (by omega) ?_ | refine V.NLt.mk (by omega) ?_ | refine V.NBoth.mk ?_ ?_ | refine V.NTF.yes (by omega) ?_ | refine V.NTF.no (by omega) ?_ | refine V.NTF.dec ?_ | refine V.NDraw.q (by exact rfl) (by kernel_rfl) ?_ | refine V.NApp.one (by first | omega | (simp; omega)) (by first | omega | (simp; omega)) ?_ | (refine NShr.i64 m (by omega) (by omega) (by omega) ?_; intro x hx hx0 hx1) | (refine NRem.pos (by omega) (by omega) ?_; intro z hz hz0 hz1) | (refine NQuo.pos (by omega) (by omega) (by omega) ?_; intro z hz hz0 hz1) | (refine V.NDraw.any (by kernel_rfl) ?_) | fail)
    all_goals (conv => whnf)
    all_goals rename_i hz hz0 hz1 _
    all_goals subst_vars
    · exact V.nif2 (M.po_big ha.1 hb.1 hc.1 (M.po1 hJ rfl (by omega)) (by assumption) (by assumption))
    · refine V.NBack.at_ (m, _, _) [] ⟨by omega, M.po1 hJ rfl (by omega), ⟨by assumption, by assumption⟩, ?_, ?_⟩ (by show m < m + 1; omega) (by repeat' (first | exact rfl | exact Iff.rfl | exact trivial | exact (fun _ _ => rfl) | exact (fun _ h => absurd h (Nat.not_lt_zero _)) | refine ⟨?_, ?_⟩ | exact Iff.rfl | exact congrArg (fun z => V.SV.one (V.At.val (Value.int .i64 z))) (by omega))) rfl (by repeat' (first | exact rfl | exact Iff.rfl | exact trivial | exact (fun _ _ => rfl) | exact (fun _ h => absurd h (Nat.not_lt_zero _)) | refine ⟨?_, ?_⟩ | exact Iff.rfl | exact congrArg (fun z => V.SV.one (V.At.val (Value.int .i64 z))) (by omega))) (by repeat' (first | exact rfl | exact Iff.rfl | exact trivial | exact (fun _ _ => rfl) | exact (fun _ h => absurd h (Nat.not_lt_zero _)) | refine ⟨?_, ?_⟩ | exact Iff.rfl | exact congrArg (fun z => V.SV.one (V.At.val (Value.int .i64 z))) (by omega))) (by repeat' (first | exact rfl | exact Iff.rfl | exact trivial | exact (fun _ _ => rfl) | exact (fun _ h => absurd h (Nat.not_lt_zero _)) | refine ⟨?_, ?_⟩ | exact Iff.rfl | exact congrArg (fun z => V.SV.one (V.At.val (Value.int .i64 z))) (by omega))) <;> omega
    · exact V.nif2 (M.po_big ha.1 hb.1 hc.1 (M.po0 hJ rfl (by omega) (by omega) (by omega)) (by assumption) (by assumption))
    · refine V.NBack.at_ (m, _, _) [] ⟨by omega, M.po0 hJ rfl (by omega) (by omega) (by omega), ⟨by assumption, by assumption⟩, ?_, ?_⟩ (by show m < m + 1; omega) (by repeat' (first | exact rfl | exact Iff.rfl | exact trivial | exact (fun _ _ => rfl) | exact (fun _ h => absurd h (Nat.not_lt_zero _)) | refine ⟨?_, ?_⟩ | exact Iff.rfl | exact congrArg (fun z => V.SV.one (V.At.val (Value.int .i64 z))) (by omega))) rfl (by repeat' (first | exact rfl | exact Iff.rfl | exact trivial | exact (fun _ _ => rfl) | exact (fun _ h => absurd h (Nat.not_lt_zero _)) | refine ⟨?_, ?_⟩ | exact Iff.rfl | exact congrArg (fun z => V.SV.one (V.At.val (Value.int .i64 z))) (by omega))) (by repeat' (first | exact rfl | exact Iff.rfl | exact trivial | exact (fun _ _ => rfl) | exact (fun _ h => absurd h (Nat.not_lt_zero _)) | refine ⟨?_, ?_⟩ | exact Iff.rfl | exact congrArg (fun z => V.SV.one (V.At.val (Value.int .i64 z))) (by omega))) (by repeat' (first | exact rfl | exact Iff.rfl | exact trivial | exact (fun _ _ => rfl) | exact (fun _ h => absurd h (Nat.not_lt_zero _)) | refine ⟨?_, ?_⟩ | exact Iff.rfl | exact congrArg (fun z => V.SV.one (V.At.val (Value.int .i64 z))) (by omega))) <;> omega
namespace M
theorem po_at {a b c : Int} (ha : 0 ≤ a) (hb : 0 ≤ b) (hc : 1 ≤ c) : (poQ a b c = -1 ∧ 2305843009213693952 < a * b / c) ∨ (poQ a b c = a * b / c ∧ poR a b c = a * b % c ∧ 0 ≤ a * b / c ∧ a * b / c ≤ 2305843009213693952 ∧ 0 ≤ a * b % c ∧ a * b % c < c) := by
  have h1 : 0 ≤ a * b / c := Int.ediv_nonneg (Int.mul_nonneg ha hb) (by omega)
  have h2 := r_bd (x := a * b) hc
  unfold poQ poR
  by_cases h : 2305843009213693952 < a * b / c
  · left; rw [if_pos h]; exact ⟨rfl, h⟩
  · right; rw [if_neg h, if_neg h]; exact ⟨rfl, rfl, h1, by omega, h2.1, h2.2⟩
theorem po_key (a b c : Int) (hb : 0 ≤ b) (hc : 1 ≤ c) : (0 ≤ a → (poQ (1 * a) b c = -1 ∧ 2305843009213693952 < a * b / c) ∨ (poQ (1 * a) b c = a * b / c ∧ poR (1 * a) b c = a * b % c ∧ 0 ≤ a * b / c ∧ a * b / c ≤ 2305843009213693952 ∧ 0 ≤ a * b % c ∧ a * b % c < c)) ∧
    (a < 0 → (poQ (-1 * a) b c = -1 ∧ a * b / c < -2305843009213693952) ∨ ((0 ≤ poQ (-1 * a) b c ∧ poQ (-1 * a) b c ≤ 2305843009213693952) ∧ ((poR (-1 * a) b c = 0 ∧ a * b / c = -poQ (-1 * a) b c ∧ a * b % c = 0) ∨ (0 < poR (-1 * a) b c ∧ a * b / c = -poQ (-1 * a) b c - 1 ∧ a * b % c = c - poR (-1 * a) b c ∧ poR (-1 * a) b c < c)))) := by
  refine ⟨fun ha => ?_, fun ha => ?_⟩
  · rw [Int.one_mul]; exact po_at ha hb hc
  · have e : a * b = -(-1 * a * b) := by grind
    rw [e]
    generalize hx : -1 * a = x
    have h1 := po_at (a := x) (by omega) hb hc
    rcases neg_part (x := x * b) hc with ⟨n0, n1, n2⟩ | ⟨n0, n1, n2⟩ <;> rw [n1, n2] <;> omega
end M
end Go.Proofs.Yteblbhbfdfifpaa
