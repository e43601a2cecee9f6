/- What the document's answers on amounts are. -/
import Derived.Test.YtbllokemalclbaaVMoney
namespace Go.Proofs.Ytbllokemalclbaa
open Go Go.RowKit V
set_option maxRecDepth 100000
set_option linter.unusedVariables false
namespace M
theorem chk0 {a : Int} : chk a = 0 ↔ (-1152921504606846976 ≤ a ∧ a ≤ 1152921504606846976) := ⟨chk_ok, chk_yes⟩
end M
theorem v_acheck (a : Int) : V.Fn Try.prog 21 [] [.one (.val (.int .i64 a))] (.int .i64 (M.chk a)) := by
  refine V.Fn.mk_ V.Tok V.mixed Try.func21 rfl Try.ntmps21 (by kernel_rfl) rfl rfl ?_
  repeat' ((conv => whnf); first | refine V.NIf.not_ ?_ | refine V.NIf.dec_ ?_ | refine V.NIf.no (by omega) ?_ | refine V.NIf.yes (by omega) ?_ | refine V.NIf.mk (fun _ => ?_) (fun _ => ?_) | refine V.NWrap.ok (by omega) (by omega) ?_ | refine V.NWrap.u64 (by omega) (by omega) ?_ | refine V.NLt.mk (by omega) ?_ | refine V.NApp.one (by first | omega | (simp; omega)) (by first | omega | (simp; omega)) ?_ | (first | refine V.Fn.k0 (v_rbetween _ _ _) rfl ?_ | refine V.Fn.q0 (v_rbetween _ _ _) rfl ?_) | fail)
  all_goals ((conv => whnf); refine congrArg _ ?_; unfold M.chk M.Amt; (repeat' split) <;> first | rfl | omega | (exfalso; omega) | (simp_all; done) | (simp_all; omega))
theorem v_radd (a b : Int) : V.Fn Try.prog 15 [] [.one (.val (.int .i64 a)), .one (.val (.int .i64 b))] (.tuple #[.int .i64 (M.addV a b), .int .i64 (M.addE a b)]) := by
  have ka : M.chk a = 0 → -1152921504606846976 ≤ a ∧ a ≤ 1152921504606846976 := M.chk_ok
  have kb : M.chk b = 0 → -1152921504606846976 ≤ b ∧ b ≤ 1152921504606846976 := M.chk_ok
  refine V.Fn.mk_ V.Tok V.mixed Try.func15 rfl Try.ntmps15 (by kernel_rfl) rfl rfl ?_
  repeat' ((conv => whnf); first | refine V.NIf.not_ ?_ | refine V.NIf.dec_ ?_ | refine V.NIf.no (by omega) ?_ | refine V.NIf.yes (by omega) ?_ | refine V.NIf.mk (fun _ => ?_) (fun _ => ?_) | refine V.NWrap.ok (by omega) (by omega) ?_ | refine V.NWrap.u64 (by omega) (by omega) ?_ | refine V.NLt.mk (by omega) ?_ | refine V.NApp.one (by first | omega | (simp; omega)) (by first | omega | (simp; omega)) ?_ | (first | refine V.Fn.k0 (v_acheck _) rfl ?_ | refine V.Fn.q0 (v_acheck _) rfl ?_) | fail)
  all_goals (conv => whnf)
  all_goals clear ka kb
  all_goals simp only [M.chk0] at *
  all_goals refine V.fin2 ⟨?_, ?_⟩
  all_goals simp only [M.addV, M.addE, M.chk, M.Amt]
  all_goals (repeat' split) <;> first | omega | (exfalso; omega)
namespace M
def poQ (a b c : Int) : Int := if 2305843009213693952 < a * b / c then -1 else a * b / c
def poR (a b c : Int) : Int := if 2305843009213693952 < a * b / c then 0 else a * b % c
theorem bit2 (b : Int) (m : Nat) : b / 2 ^ m = 2 * (b / 2 ^ (m + 1)) + b / 2 ^ m % 2 := by
  have p : (0 : Int) ≤ 2 ^ m := Int.le_of_lt (Int.pow_pos (by omega))
  rw [Int.pow_succ, ← Int.ediv_ediv_of_nonneg p]
  omega
theorem po1 {a b c q r t : Int} {m : Nat} (hJ : q * c + r = a * (b / 2 ^ (m + 1))) (ht : t = b / 2 ^ m % 2) (h1 : t = 1) : (2 * q + a / c + (2 * r + a % c) / c) * c + (2 * r + a % c) % c = a * (b / 2 ^ m) := by
  have h2 := qr a c
  have h3 := qr (2 * r + a % c) c
  have h4 := bit2 b m
  generalize b / 2 ^ m = X at *
  generalize b / 2 ^ (m + 1) = Y at *
  have h5 : X = 2 * Y + 1 := by omega
  clear h4 ht
  grind
theorem po0 {a b c q r t : Int} {m : Nat} (hJ : q * c + r = a * (b / 2 ^ (m + 1))) (ht : t = b / 2 ^ m % 2) (h0 : 0 ≤ t) (h2 : t < 2) (h1 : ¬ t = 1) : (2 * q + (2 * r) / c) * c + (2 * r) % c = a * (b / 2 ^ m) := by
  have h3 := qr (2 * r) c
  have h4 := bit2 b m
  generalize b / 2 ^ m = X at *
  generalize b / 2 ^ (m + 1) = Y at *
  have h5 : X = 2 * Y := by omega
  clear h4 ht
  grind
theorem po_big {a b c Q R : Int} {m : Nat} (ha : 0 ≤ a) (hb : 0 ≤ b) (hc : 1 ≤ c) (h : Q * c + R = a * (b / 2 ^ m)) (hR : 0 ≤ R) (hQ : 2305843009213693952 < Q) : -1 = poQ a b c ∧ 0 = poR a b c := by
  have h1 : b / 2 ^ m ≤ b := Int.ediv_le_self _ hb
  have h2 : a * (b / 2 ^ m) ≤ a * b := Int.mul_le_mul_of_nonneg_left h1 ha
  have h3 : Q ≤ a * b / c := (Int.le_ediv_iff_mul_le (by omega)).2 (by omega)
  unfold poQ poR
  rw [if_pos (by omega), if_pos (by omega)]; exact ⟨rfl, rfl⟩
theorem po_end {a b c q r : Int} (hc : 1 ≤ c) (h : q * c + r = a * (b / 2 ^ 0)) (hr : 0 ≤ r ∧ r < c) (hq : q ≤ 2305843009213693952) : q = poQ a b c ∧ r = poR a b c := by
  have e : b / 2 ^ 0 = b := by simp
  rw [e] at h
  have h1 : a * b / c = q := by
    rw [← h, Int.add_comm, Int.add_mul_ediv_right _ _ (by omega), Int.ediv_eq_zero_of_lt hr.1 hr.2]; omega
  have h2 : a * b % c = r := by
    rw [← h, Int.add_comm, Int.add_mul_emod_self_right]; exact Int.emod_eq_of_lt hr.1 hr.2
  unfold poQ poR
  rw [if_neg (by omega), if_neg (by omega), h1, h2]; exact ⟨rfl, rfl⟩
end M
set_option maxHeartbeats 1000000 in
theorem v_partOf (a b c : Int) (ha : 0 ≤ a ∧ a ≤ 1152921504606846976) (hb : 0 ≤ b ∧ b ≤ 1099511627776) (hc : 1 ≤ c ∧ c ≤ 1099511627776) : V.Fn Try.prog 27 [] [.one (.val (.int .i64 a)), .one (.val (.int .i64 b)), .one (.val (.int .i64 c))] (.tuple #[.int .i64 (M.poQ a b c), .int .i64 (M.poR a b c)]) := by
  refine V.Fn.mk_ V.Tok V.mixed Try.func27 rfl Try.ntmps27 (by kernel_rfl) rfl rfl ?_
  (conv => whnf)
  refine V.NLoop.auto (fun (⟨n, q, r⟩ : Nat × Int × Int) => [(8, .one (.val (.int .i64 q))), (9, .one (.val (.int .i64 r))), (10, .one (.val (.int .i64 ((n : Int) - 1))))]) (fun (⟨n, q, r⟩ : Nat × Int × Int) => []) [] [] (fun (⟨n, q, r⟩ : Nat × Int × Int) => n) (fun (⟨n, q, r⟩ : Nat × Int × Int) => n ≤ 41 ∧ q * c + r = a * (b / 2 ^ n) ∧ (0 ≤ r ∧ r < c) ∧ 0 ≤ q ∧ q ≤ 2305843009213693952) (41, 0, 0) ⟨by omega, (by rw [Int.ediv_eq_zero_of_lt (by omega) (by omega)]; omega), by omega, by omega⟩ (by repeat' (first | exact rfl | exact trivial | exact (fun _ _ => rfl) | exact (fun _ h => absurd h (Nat.not_lt_zero _)) | refine ⟨?_, ?_⟩ | exact Iff.rfl | exact congrArg (fun z => V.SV.one (V.At.val (Value.int .i64 z))) (by omega))) (by repeat' (first | exact rfl | exact trivial | exact (fun _ _ => rfl) | exact (fun _ h => absurd h (Nat.not_lt_zero _)) | refine ⟨?_, ?_⟩ | exact Iff.rfl | exact congrArg (fun z => V.SV.one (V.At.val (Value.int .i64 z))) (by omega))) (fun _ => ⟨rfl, rfl⟩) ?_; (conv => whnf); refine ⟨⟨rfl, rfl⟩, ?_⟩
  rintro ⟨n, q, r⟩ ⟨hn, hJ, hr, hq⟩
  cases n with
  | zero =>
    repeat' ((conv => whnf); first | refine V.NIf.not_ ?_ | refine V.NIf.dec_ ?_ | refine V.NIf.no (by omega) ?_ | refine V.NIf.yes (by omega) ?_ | refine V.NIf.mk (fun _ => ?_) (fun _ => ?_) | refine V.NWrap.ok (by omega) (by omega) ?_ | refine V.NWrap.u64 (by omega) (by omega) ?_ | refine V.NLt.mk (by omega) ?_ | refine V.NApp.one (by first | omega | (simp; omega)) (by first | omega | (simp; omega)) ?_ | fail)
    exact V.nif2 (M.po_end hc.1 hJ hr hq.2)
  | succ m =>
    repeat' ((conv => whnf); first | (refine NRem.pos (y := 2) (by omega) (by omega) ?_; intro t ht ht0 ht1) | refine V.NIf.not_ ?_ | refine V.NIf.dec_ ?_ | refine V.NIf.no (by omega) ?_ | refine V.NIf.yes (by omega) ?_ | refine V.NIf.mk (fun _ => ?_) (fun _ => ?_) | refine V.NWrap.ok (by omega) (by omega) ?_ | refine V.NWrap.u64 (by omega) (by omega) ?_ | refine V.NLt.mk (by omega) ?_ | refine V.NApp.one (by first | omega | (simp; omega)) (by first | omega | (simp; omega)) ?_ | (refine NShr.i64 m (by omega) (by omega) (by omega) ?_; intro x hx hx0 hx1) | (refine NRem.pos (by omega) (by omega) ?_; intro z hz hz0 hz1) | (refine NQuo.pos (by omega) (by omega) (by omega) ?_; intro z hz hz0 hz1) | fail)
    all_goals (conv => whnf)
    all_goals rename_i hz hz0 hz1 _
    all_goals subst_vars
    · exact V.nif2 (M.po_big ha.1 hb.1 hc.1 (M.po1 hJ rfl (by omega)) (by assumption) (by assumption))
    · refine V.NBack.at_ (m, _, _) [] ⟨by omega, M.po1 hJ rfl (by omega), ⟨by assumption, by assumption⟩, ?_, ?_⟩ (by show m < m + 1; omega) (by repeat' (first | exact rfl | exact trivial | exact (fun _ _ => rfl) | exact (fun _ h => absurd h (Nat.not_lt_zero _)) | refine ⟨?_, ?_⟩ | exact Iff.rfl | exact congrArg (fun z => V.SV.one (V.At.val (Value.int .i64 z))) (by omega))) rfl (by repeat' (first | exact rfl | exact trivial | exact (fun _ _ => rfl) | exact (fun _ h => absurd h (Nat.not_lt_zero _)) | refine ⟨?_, ?_⟩ | exact Iff.rfl | exact congrArg (fun z => V.SV.one (V.At.val (Value.int .i64 z))) (by omega))) (by repeat' (first | exact rfl | exact trivial | exact (fun _ _ => rfl) | exact (fun _ h => absurd h (Nat.not_lt_zero _)) | refine ⟨?_, ?_⟩ | exact Iff.rfl | exact congrArg (fun z => V.SV.one (V.At.val (Value.int .i64 z))) (by omega))) (by repeat' (first | exact rfl | exact trivial | exact (fun _ _ => rfl) | exact (fun _ h => absurd h (Nat.not_lt_zero _)) | refine ⟨?_, ?_⟩ | exact Iff.rfl | exact congrArg (fun z => V.SV.one (V.At.val (Value.int .i64 z))) (by omega))) <;> omega
    · exact V.nif2 (M.po_big ha.1 hb.1 hc.1 (M.po0 hJ rfl (by omega) (by omega) (by omega)) (by assumption) (by assumption))
    · refine V.NBack.at_ (m, _, _) [] ⟨by omega, M.po0 hJ rfl (by omega) (by omega) (by omega), ⟨by assumption, by assumption⟩, ?_, ?_⟩ (by show m < m + 1; omega) (by repeat' (first | exact rfl | exact trivial | exact (fun _ _ => rfl) | exact (fun _ h => absurd h (Nat.not_lt_zero _)) | refine ⟨?_, ?_⟩ | exact Iff.rfl | exact congrArg (fun z => V.SV.one (V.At.val (Value.int .i64 z))) (by omega))) rfl (by repeat' (first | exact rfl | exact trivial | exact (fun _ _ => rfl) | exact (fun _ h => absurd h (Nat.not_lt_zero _)) | refine ⟨?_, ?_⟩ | exact Iff.rfl | exact congrArg (fun z => V.SV.one (V.At.val (Value.int .i64 z))) (by omega))) (by repeat' (first | exact rfl | exact trivial | exact (fun _ _ => rfl) | exact (fun _ h => absurd h (Nat.not_lt_zero _)) | refine ⟨?_, ?_⟩ | exact Iff.rfl | exact congrArg (fun z => V.SV.one (V.At.val (Value.int .i64 z))) (by omega))) (by repeat' (first | exact rfl | exact trivial | exact (fun _ _ => rfl) | exact (fun _ h => absurd h (Nat.not_lt_zero _)) | refine ⟨?_, ?_⟩ | exact Iff.rfl | exact congrArg (fun z => V.SV.one (V.At.val (Value.int .i64 z))) (by omega))) <;> omega
namespace M
theorem po_at {a b c : Int} (ha : 0 ≤ a) (hb : 0 ≤ b) (hc : 1 ≤ c) : (poQ a b c = -1 ∧ 2305843009213693952 < a * b / c) ∨ (poQ a b c = a * b / c ∧ poR a b c = a * b % c ∧ 0 ≤ a * b / c ∧ a * b / c ≤ 2305843009213693952 ∧ 0 ≤ a * b % c ∧ a * b % c < c) := by
  have h1 : 0 ≤ a * b / c := Int.ediv_nonneg (Int.mul_nonneg ha hb) (by omega)
  have h2 := r_bd (x := a * b) hc
  unfold poQ poR
  by_cases h : 2305843009213693952 < a * b / c
  · left; rw [if_pos h]; exact ⟨rfl, h⟩
  · right; rw [if_neg h, if_neg h]; exact ⟨rfl, rfl, h1, by omega, h2.1, h2.2⟩
theorem po_key (a b c : Int) (hb : 0 ≤ b) (hc : 1 ≤ c) : (0 ≤ a → (poQ (1 * a) b c = -1 ∧ 2305843009213693952 < a * b / c) ∨ (poQ (1 * a) b c = a * b / c ∧ poR (1 * a) b c = a * b % c ∧ 0 ≤ a * b / c ∧ a * b / c ≤ 2305843009213693952 ∧ 0 ≤ a * b % c ∧ a * b % c < c)) ∧
    (a < 0 → (poQ (-1 * a) b c = -1 ∧ a * b / c < -2305843009213693952) ∨ ((0 ≤ poQ (-1 * a) b c ∧ poQ (-1 * a) b c ≤ 2305843009213693952) ∧ ((poR (-1 * a) b c = 0 ∧ a * b / c = -poQ (-1 * a) b c ∧ a * b % c = 0) ∨ (0 < poR (-1 * a) b c ∧ a * b / c = -poQ (-1 * a) b c - 1 ∧ a * b % c = c - poR (-1 * a) b c ∧ poR (-1 * a) b c < c)))) := by
  refine ⟨fun ha => ?_, fun ha => ?_⟩
  · rw [Int.one_mul]; exact po_at ha hb hc
  · have e : a * b = -(-1 * a * b) := by grind
    rw [e]
    generalize hx : -1 * a = x
    have h1 := po_at (a := x) (by omega) hb hc
    rcases neg_part (x := x * b) hc with ⟨n0, n1, n2⟩ | ⟨n0, n1, n2⟩ <;> rw [n1, n2] <;> omega
end M
set_option maxHeartbeats 1000000 in
theorem v_rpart (a b c : Int) : V.Fn Try.prog 16 [] [.one (.val (.int .i64 a)), .one (.val (.int .i64 b)), .one (.val (.int .i64 c))] (.tuple #[.int .i64 (M.prQ a b c), .int .i64 (M.prR a b c), .int .i64 (M.prE a b c)]) := by
  have ka := @M.chk0 a
  have key : 0 ≤ b ∧ 1 ≤ c → _ := fun h => M.po_key a b c h.1 h.2
  refine V.Fn.mk_ V.Tok V.mixed Try.func16 rfl Try.ntmps16 (by kernel_rfl) rfl rfl ?_
  repeat' ((conv => whnf); first | refine V.NIf.not_ ?_ | refine V.NIf.dec_ ?_ | refine V.NIf.no (by omega) ?_ | refine V.NIf.yes (by omega) ?_ | refine V.NIf.mk (fun _ => ?_) (fun _ => ?_) | refine V.NWrap.ok (by omega) (by omega) ?_ | refine V.NWrap.u64 (by omega) (by omega) ?_ | refine V.NLt.mk (by omega) ?_ | refine V.NApp.one (by first | omega | (simp; omega)) (by first | omega | (simp; omega)) ?_ | (first | refine V.Fn.k0 (v_acheck _) rfl ?_ | refine V.Fn.q0 (v_acheck _) rfl ?_) | (first | refine V.Fn.k0 (v_rbetween _ _ _) rfl ?_ | refine V.Fn.q0 (v_rbetween _ _ _) rfl ?_) | (first | refine V.Fn.k0 (v_partOf (1 * a) b c (by omega) (by omega) (by omega)) rfl ?_ | refine V.Fn.q0 (v_partOf (1 * a) b c (by omega) (by omega) (by omega)) rfl ?_) | (first | refine V.Fn.k0 (v_partOf (-1 * a) b c (by omega) (by omega) (by omega)) rfl ?_ | refine V.Fn.q0 (v_partOf (-1 * a) b c (by omega) (by omega) (by omega)) rfl ?_) | fail)
  all_goals (conv => whnf)
  all_goals refine V.fin3 ?_
  all_goals simp only [M.chk0] at *
  all_goals simp only [M.prQ, M.prR, M.prE, M.POk, M.Amt]
  all_goals clear ka
  all_goals refine ⟨?_, ?_, ?_⟩ <;> (repeat' split) <;> omega
theorem v_rnear (a b c : Int) : V.Fn Try.prog 17 [] [.one (.val (.int .i64 a)), .one (.val (.int .i64 b)), .one (.val (.int .i64 c))] (.tuple #[.int .i64 (M.neV a b c), .int .i64 (M.neE a b c)]) := by
  have kp : M.prE a b c = 0 → ((0 ≤ M.prR a b c ∧ M.prR a b c < c) ∧ c ≤ 1099511627776) ∧ -1152921504606846976 ≤ M.prQ a b c ∧ M.prQ a b c ≤ 1152921504606846976 := fun h => by
    obtain ⟨p, k⟩ := M.pr_ok h
    rw [(M.pr_3 p k).2.1, (M.pr_3 p k).2.2]
    exact ⟨⟨M.r_bd p.2.2.1, p.2.2.2⟩, k⟩
  have t2 := M.tmod2 (M.prQ a b c)
  have t3 := V.tq (M.prQ a b c) (y := 2) (by omega)
  refine V.Fn.mk_ V.Tok V.mixed Try.func17 rfl Try.ntmps17 (by kernel_rfl) rfl rfl ?_
  repeat' ((conv => whnf); first | refine V.NIf.not_ ?_ | refine V.NIf.dec_ ?_ | refine V.NIf.no (by omega) ?_ | refine V.NIf.yes (by omega) ?_ | refine V.NIf.mk (fun _ => ?_) (fun _ => ?_) | refine V.NWrap.ok (by omega) (by omega) ?_ | refine V.NWrap.u64 (by omega) (by omega) ?_ | refine V.NLt.mk (by omega) ?_ | refine V.NApp.one (by first | omega | (simp; omega)) (by first | omega | (simp; omega)) ?_ | (first | refine V.Fn.k0 (v_rpart _ _ _) rfl ?_ | refine V.Fn.q0 (v_rpart _ _ _) rfl ?_) | (first | refine V.Fn.k0 (v_acheck _) rfl ?_ | refine V.Fn.q0 (v_acheck _) rfl ?_) | (refine NRem.mk (by decide) ?_) | fail)
  all_goals (conv => whnf)
  all_goals first
    | (refine V.fin2 (M.ne_yes ?_ ?_ ?_) <;> first | assumption | (unfold M.up; split <;> omega))
    | (refine V.fin2 (M.ne_no (v := M.prQ a b c + 1) ?_ ?_ ?_) <;> first | assumption | (unfold M.up; split <;> omega))
    | (refine V.fin2 (M.ne_no (v := M.prQ a b c) ?_ ?_ ?_) <;> first | assumption | (unfold M.up; split <;> omega))
    | (refine V.fin2 (And.symm (M.ne_1 ?_)); assumption)
namespace M
def mo (l : List Int) : List Int := l.filter fun a => decide (0 ≤ a)
def le (l : List Int) : List Int := l.filter fun a => !decide (0 ≤ a)
theorem mo_snoc {l : List Int} {k : Nat} (h : k < l.length) : mo (l.take (k + 1)) = if 0 ≤ l[k] then mo (l.take k) ++ [l[k]] else mo (l.take k) := by
  unfold mo; rw [List.take_succ_eq_append_getElem h, List.filter_append]; split <;> simp_all
theorem le_snoc {l : List Int} {k : Nat} (h : k < l.length) : le (l.take (k + 1)) = if 0 ≤ l[k] then le (l.take k) else le (l.take k) ++ [l[k]] := by
  unfold le; rw [List.take_succ_eq_append_getElem h, List.filter_append]; split <;> simp_all
theorem mole_len (l : List Int) (k : Nat) (h : k ≤ l.length) : (mo (l.take k)).length ≤ k ∧ (le (l.take k)).length ≤ k := by
  have h1 := List.length_filter_le (fun a : Int => decide (0 ≤ a)) (l.take k)
  have h2 := List.length_filter_le (fun a : Int => !decide (0 ≤ a)) (l.take k)
  rw [List.length_take_of_le h] at h1 h2
  exact ⟨h1, h2⟩
theorem mole_sum : ∀ l : List Int, sum (mo l) + sum (le l) = sum l
  | [] => rfl
  | a :: r => by
    have := mole_sum r
    unfold mo le at *
    by_cases h : 0 ≤ a <;> simp [h, sum] <;> omega
theorem sum_take_drop (l : List Int) (i : Nat) : sum (l.take i) + sum (l.drop i) = sum l := by rw [← sum_append, List.take_append_drop]
theorem sum_take_succ {l : List Int} {i : Nat} (h : i < l.length) : sum (l.take (i + 1)) = sum (l.take i) + l[i] := by
  rw [List.take_succ_eq_append_getElem h, sum_append]; simp [sum]
theorem sum_pos {l : List Int} (h : ∀ a ∈ l, 0 ≤ a) : 0 ≤ sum l := by
  induction l with
  | nil => simp [sum]
  | cons a r ih => have := h a (by simp); have := ih fun x hx => h x (by simp [hx]); simp only [sum]; omega
theorem sum_neg {l : List Int} (h : ∀ a ∈ l, a ≤ 0) : sum l ≤ 0 := by
  induction l with
  | nil => simp [sum]
  | cons a r ih => have := h a (by simp); have := ih fun x hx => h x (by simp [hx]); simp only [sum]; omega
theorem sum_drop_pos {l : List Int} (h : ∀ a ∈ l, 0 ≤ a) (i : Nat) : sum (l.take i) + sum (l.drop i) = sum l ∧ 0 ≤ sum (l.drop i) ∧ (l.length ≤ i → sum (l.drop i) = 0) ∧ (i < l.length → l.getD (0 + i) default ≤ sum (l.drop i) ∧ sum (l.take (i + 1)) = sum (l.take i) + l.getD (0 + i) default) := by
  refine ⟨sum_take_drop l i, sum_pos fun a ha => h a (List.mem_of_mem_drop ha), fun hi => by rw [List.drop_eq_nil_of_le hi]; rfl, fun hi => ?_⟩
  rw [Nat.zero_add, getD_at hi]
  refine ⟨?_, sum_take_succ hi⟩
  rw [List.drop_eq_getElem_cons hi]
  have := sum_pos (l := l.drop (i + 1)) fun a ha => h a (List.mem_of_mem_drop ha)
  simp only [sum]; omega
theorem sum_drop_neg {l : List Int} (h : ∀ a ∈ l, a ≤ 0) (i : Nat) : sum (l.take i) + sum (l.drop i) = sum l ∧ sum (l.drop i) ≤ 0 ∧ (l.length ≤ i → sum (l.drop i) = 0) ∧ (i < l.length → sum (l.drop i) ≤ l.getD (0 + i) default ∧ sum (l.take (i + 1)) = sum (l.take i) + l.getD (0 + i) default) := by
  refine ⟨sum_take_drop l i, sum_neg fun a ha => h a (List.mem_of_mem_drop ha), fun hi => by rw [List.drop_eq_nil_of_le hi]; rfl, fun hi => ?_⟩
  rw [Nat.zero_add, getD_at hi]
  refine ⟨?_, sum_take_succ hi⟩
  rw [List.drop_eq_getElem_cons hi]
  have := sum_neg (l := l.drop (i + 1)) fun a ha => h a (List.mem_of_mem_drop ha)
  simp only [sum]; omega
theorem mo_pos (l : List Int) : ∀ a ∈ mo l, 0 ≤ a := fun a h => by simpa using (List.mem_filter.1 h).2
theorem le_neg (l : List Int) : ∀ a ∈ le l, a ≤ 0 := fun a h => by have := (List.mem_filter.1 h).2; simp at this; omega
end M
set_option maxHeartbeats 1000000 in
theorem v_rtotal (l : List Int) : V.Fn Try.prog 18 [.arr 1 l.length (ga e1 l)] [.one (.ref 0)] (.tuple #[.int .i64 (M.toV l), .int .i64 (M.toE l)]) := by
  refine V.Fn.mk_ V.Tok V.mixed Try.func18 rfl Try.ntmps18 (by kernel_rfl) rfl rfl ?_
  repeat' ((conv => whnf); first | refine V.NIf.not_ ?_ | refine V.NIf.dec_ ?_ | refine V.NIf.no (by omega) ?_ | refine V.NIf.yes (by omega) ?_ | refine V.NIf.mk (fun _ => ?_) (fun _ => ?_) | refine V.NWrap.ok (by omega) (by omega) ?_ | refine V.NWrap.u64 (by omega) (by omega) ?_ | refine V.NLt.mk (by omega) ?_ | refine V.NApp.one (by first | omega | (simp; omega)) (by first | omega | (simp; omega)) ?_ | fail)
  · exact V.fin2 (M.to_1 (by omega))
  have hn : l.length ≤ 40 := by omega
  refine V.NLoop.auto (fun (k : Nat) => [(6, .one (.val (.int .i64 k))), (4, .one (.ref 1)), (5, .one (.ref 2))]) (fun (k : Nat) => [(1, .row 3 1 (M.mo (l.take k)).length (ga e1 (M.mo (l.take k)))), (2, .row 3 1 (M.le (l.take k)).length (ga e1 (M.le (l.take k))))]) [] [] (fun (k : Nat) => l.length - k) (fun (k : Nat) => k ≤ l.length ∧ ∀ a ∈ l.take k, M.Amt a) 0 ⟨by omega, by simp⟩ (by repeat' (first | exact rfl | exact trivial | exact (fun _ _ => rfl) | exact (fun _ h => absurd h (Nat.not_lt_zero _)) | refine ⟨?_, ?_⟩ | exact Iff.rfl | exact congrArg (fun z => V.SV.one (V.At.val (Value.int .i64 z))) (by omega))) (by repeat' (first | exact rfl | exact trivial | exact (fun _ _ => rfl) | exact (fun _ h => absurd h (Nat.not_lt_zero _)) | refine ⟨?_, ?_⟩ | exact Iff.rfl | exact congrArg (fun z => V.SV.one (V.At.val (Value.int .i64 z))) (by omega))) (fun _ => ⟨rfl, rfl⟩) ?_; (conv => whnf); refine ⟨⟨rfl, rfl⟩, ?_⟩
  rintro k ⟨hk, hJ⟩
  obtain ⟨m1, m2⟩ := M.mole_len l k hk
  repeat' ((conv => whnf); first | refine V.NIf.not_ ?_ | refine V.NIf.dec_ ?_ | refine V.NIf.no (by omega) ?_ | refine V.NIf.yes (by omega) ?_ | refine V.NIf.mk (fun _ => ?_) (fun _ => ?_) | refine V.NWrap.ok (by omega) (by omega) ?_ | refine V.NWrap.u64 (by omega) (by omega) ?_ | refine V.NLt.mk (by omega) ?_ | refine V.NApp.one (by first | omega | (simp; omega)) (by first | omega | (simp; omega)) ?_ | (refine NIdx.mk ⟨_, rfl, by omega, ?_⟩) | (first | refine V.Fn.k0 (v_acheck _) rfl ?_ | refine V.Fn.q0 (v_acheck _) rfl ?_) | fail)
  all_goals (conv => whnf)
  · rename_i hlt ha h0
    have hlt : k < l.length := by omega
    rw [getD_at hlt] at ha h0
    refine V.NBack.at_ (k + 1) [(1, 4)] ⟨by omega, ?_⟩ (by omega) (by repeat' (first | exact rfl | exact trivial | exact (fun _ _ => rfl) | exact (fun _ h => absurd h (Nat.not_lt_zero _)) | refine ⟨?_, ?_⟩ | exact Iff.rfl | exact congrArg (fun z => V.SV.one (V.At.val (Value.int .i64 z))) (by omega))) rfl ⟨ObLe.as_ ((M.mo_snoc hlt).trans ((if_pos h0).trans (by rw [getD_at hlt]))), ObLe.as_ ((M.le_snoc hlt).trans (if_pos h0)), trivial⟩ (by repeat' (first | exact rfl | exact trivial | exact (fun _ _ => rfl) | exact (fun _ h => absurd h (Nat.not_lt_zero _)) | refine ⟨?_, ?_⟩ | exact Iff.rfl | exact congrArg (fun z => V.SV.one (V.At.val (Value.int .i64 z))) (by omega))) (by repeat' (first | exact rfl | exact trivial | exact (fun _ _ => rfl) | exact (fun _ h => absurd h (Nat.not_lt_zero _)) | refine ⟨?_, ?_⟩ | exact Iff.rfl | exact congrArg (fun z => V.SV.one (V.At.val (Value.int .i64 z))) (by omega)))
    intro a h
    rw [List.take_succ_eq_append_getElem hlt] at h
    rcases List.mem_append.1 h with q | q
    · exact hJ a q
    · rw [List.mem_singleton.1 q]; exact M.chk_ok ha
  · rename_i hlt ha h0
    have hlt : k < l.length := by omega
    rw [getD_at hlt] at ha h0
    refine V.NBack.at_ (k + 1) [(2, 4)] ⟨by omega, ?_⟩ (by omega) (by repeat' (first | exact rfl | exact trivial | exact (fun _ _ => rfl) | exact (fun _ h => absurd h (Nat.not_lt_zero _)) | refine ⟨?_, ?_⟩ | exact Iff.rfl | exact congrArg (fun z => V.SV.one (V.At.val (Value.int .i64 z))) (by omega))) rfl ⟨ObLe.as_ ((M.mo_snoc hlt).trans (if_neg h0)), ObLe.as_ ((M.le_snoc hlt).trans ((if_neg h0).trans (by rw [getD_at hlt]))), trivial⟩ (by repeat' (first | exact rfl | exact trivial | exact (fun _ _ => rfl) | exact (fun _ h => absurd h (Nat.not_lt_zero _)) | refine ⟨?_, ?_⟩ | exact Iff.rfl | exact congrArg (fun z => V.SV.one (V.At.val (Value.int .i64 z))) (by omega))) (by repeat' (first | exact rfl | exact trivial | exact (fun _ _ => rfl) | exact (fun _ h => absurd h (Nat.not_lt_zero _)) | refine ⟨?_, ?_⟩ | exact Iff.rfl | exact congrArg (fun z => V.SV.one (V.At.val (Value.int .i64 z))) (by omega)))
    intro a h
    rw [List.take_succ_eq_append_getElem hlt] at h
    rcases List.mem_append.1 h with q | q
    · exact hJ a q
    · rw [List.mem_singleton.1 q]; exact M.chk_ok ha
  · rename_i hlt ha
    have hlt : k < l.length := by omega
    rw [getD_at hlt] at ha
    have q : ¬ ∀ a ∈ l, M.Amt a := fun q => M.chk_nok ha (q _ (List.getElem_mem hlt))
    refine V.fin2 ?_
    rw [← M.chks_no q]
    exact M.to_2 (by omega) (by rw [M.chks_no q]; omega)
  obtain rfl : k = l.length := by omega
  have eT : l.take l.length = l := List.take_length
  generalize l.take l.length = T at *
  replace eT := eT.symm
  subst eT
  have hc := M.chks_yes hJ
  have hs := M.mole_sum l
  have b1 : ∀ i : Nat, i < (M.mo l).length → 0 ≤ (M.mo l).getD (0 + i) default ∧ (M.mo l).getD (0 + i) default ≤ 1152921504606846976 := fun i h => by
    rw [Nat.zero_add, getD_at h]; exact ⟨M.mo_pos l _ (List.getElem_mem h), (hJ _ (List.mem_filter.1 (List.getElem_mem h)).1).2⟩
  have b2 : ∀ i : Nat, i < (M.le l).length → (M.le l).getD (0 + i) default ≤ 0 ∧ -1152921504606846976 ≤ (M.le l).getD (0 + i) default := fun i h => by
    rw [Nat.zero_add, getD_at h]; exact ⟨M.le_neg l _ (List.getElem_mem h), (hJ _ (List.mem_filter.1 (List.getElem_mem h)).1).1⟩
  refine V.NLoop.auto (fun (⟨i, j, s⟩ : Nat × Nat × Int) => [(7, .one (.val (.int .i64 s))), (4, .one (.ref 1)), (5, .one (.ref 2))]) (fun (⟨i, j, s⟩ : Nat × Nat × Int) => [(1, .arr 1 ((M.mo l).length - i) fun k => e1 ((M.mo l).getD (k + i) default)), (2, .arr 1 ((M.le l).length - j) fun k => e1 ((M.le l).getD (k + j) default))]) [] [] (fun (⟨i, j, s⟩ : Nat × Nat × Int) => (M.mo l).length + (M.le l).length - i - j) (fun (⟨i, j, s⟩ : Nat × Nat × Int) => (i ≤ (M.mo l).length ∧ j ≤ (M.le l).length) ∧ s = M.sum ((M.mo l).take i) + M.sum ((M.le l).take j) ∧ -2305843009213693952 ≤ s ∧ s ≤ 2305843009213693952) (0, 0, 0) ⟨by simp, by simp [M.sum], by omega, by omega⟩ (by repeat' (first | exact rfl | exact trivial | exact (fun _ _ => rfl) | exact (fun _ h => absurd h (Nat.not_lt_zero _)) | refine ⟨?_, ?_⟩ | exact Iff.rfl | exact congrArg (fun z => V.SV.one (V.At.val (Value.int .i64 z))) (by omega))) (by repeat' (first | exact rfl | exact trivial | exact (fun _ _ => rfl) | exact (fun _ h => absurd h (Nat.not_lt_zero _)) | refine ⟨?_, ?_⟩ | exact Iff.rfl | exact congrArg (fun z => V.SV.one (V.At.val (Value.int .i64 z))) (by omega))) (fun _ => ⟨rfl, rfl⟩) ?_; (conv => whnf); refine ⟨⟨rfl, rfl⟩, ?_⟩
  rintro ⟨i, j, s⟩ ⟨hij, hs1, hs2⟩
  repeat' ((conv => whnf); first | refine V.NIf.not_ ?_ | refine V.NIf.dec_ ?_ | refine V.NIf.no (by omega) ?_ | refine V.NIf.yes (by omega) ?_ | refine V.NIf.mk (fun _ => ?_) (fun _ => ?_) | refine V.NWrap.ok (by omega) (by omega) ?_ | refine V.NWrap.u64 (by omega) (by omega) ?_ | refine V.NLt.mk (by omega) ?_ | refine V.NApp.one (by first | omega | (simp; omega)) (by first | omega | (simp; omega)) ?_ | (refine NIdx.mk ⟨0, rfl, by omega, ?_⟩) | (first | refine V.Fn.k0 (v_acheck _) rfl ?_ | refine V.Fn.q0 (v_acheck _) rfl ?_) | (first | refine V.Fn.k0 (v_rbetween _ _ _) rfl ?_ | refine V.Fn.q0 (v_rbetween _ _ _) rfl ?_) | (refine NCut.mk ⟨1, _, rfl, rfl, by omega, by omega, ?_⟩) | (refine V.NWrap.ok (by have := b1 i (by omega); omega) (by have := b1 i (by omega); omega) ?_) | (refine V.NWrap.ok (by have := b2 j (by omega); omega) (by have := b2 j (by omega); omega) ?_) | fail)
  all_goals (conv => whnf)
  all_goals have d1 := M.sum_drop_pos (M.mo_pos l) i
  all_goals have d2 := M.sum_drop_neg (M.le_neg l) j
  all_goals first
    | (refine V.NBack.at_ (i + 1, j, s + (M.mo l).getD (0 + i) default) [(1, 3)] ⟨⟨by omega, by omega⟩, ?_, by omega, by omega⟩ (by simp only; omega) (by repeat' (first | exact rfl | exact trivial | exact (fun _ _ => rfl) | exact (fun _ h => absurd h (Nat.not_lt_zero _)) | refine ⟨?_, ?_⟩ | exact Iff.rfl | exact congrArg (fun z => V.SV.one (V.At.val (Value.int .i64 z))) (by omega))) rfl ⟨ObLe.cut_ (by omega) (by omega), ⟨rfl, rfl, fun _ _ => rfl⟩, trivial⟩ (by repeat' (first | exact rfl | exact trivial | exact (fun _ _ => rfl) | exact (fun _ h => absurd h (Nat.not_lt_zero _)) | refine ⟨?_, ?_⟩ | exact Iff.rfl | exact congrArg (fun z => V.SV.one (V.At.val (Value.int .i64 z))) (by omega))) (by repeat' (first | exact rfl | exact trivial | exact (fun _ _ => rfl) | exact (fun _ h => absurd h (Nat.not_lt_zero _)) | refine ⟨?_, ?_⟩ | exact Iff.rfl | exact congrArg (fun z => V.SV.one (V.At.val (Value.int .i64 z))) (by omega))); omega)
    | (refine V.NBack.at_ (i, j + 1, s + (M.le l).getD (0 + j) default) [(2, 3)] ⟨⟨by omega, by omega⟩, ?_, by omega, by omega⟩ (by simp only; omega) (by repeat' (first | exact rfl | exact trivial | exact (fun _ _ => rfl) | exact (fun _ h => absurd h (Nat.not_lt_zero _)) | refine ⟨?_, ?_⟩ | exact Iff.rfl | exact congrArg (fun z => V.SV.one (V.At.val (Value.int .i64 z))) (by omega))) rfl ⟨⟨rfl, rfl, fun _ _ => rfl⟩, ObLe.cut_ (by omega) (by omega), trivial⟩ (by repeat' (first | exact rfl | exact trivial | exact (fun _ _ => rfl) | exact (fun _ h => absurd h (Nat.not_lt_zero _)) | refine ⟨?_, ?_⟩ | exact Iff.rfl | exact congrArg (fun z => V.SV.one (V.At.val (Value.int .i64 z))) (by omega))) (by repeat' (first | exact rfl | exact trivial | exact (fun _ _ => rfl) | exact (fun _ h => absurd h (Nat.not_lt_zero _)) | refine ⟨?_, ?_⟩ | exact Iff.rfl | exact congrArg (fun z => V.SV.one (V.At.val (Value.int .i64 z))) (by omega))); omega)
    | (refine V.fin2 (M.to_3 (by omega) hc ?_); unfold M.Amt; have := b1 i; have := b2 j; omega)
    | (refine V.fin2 (M.to_3 (by omega) hc ?_); have q := M.chk_nok (a := s) (by assumption); unfold M.Amt at *; omega)
    | (have q := M.chk_ok (a := s) (by assumption)
       have e : s = M.sum l := by omega
       obtain ⟨e1, e2⟩ := M.to_of hn hJ (e ▸ q)
       exact V.fin2 ⟨e2.trans e.symm, e1⟩)
end Go.Proofs.Ytbllokemalclbaa
