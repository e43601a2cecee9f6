/- Shared texts, one behind the other: VNet2, VSumOf, VNet3, TermPl, CalPl2, FailPl2, FailPl3, AgePl, CalPl3, VFail, VFailM, VFailL, VFailB, AgePl2, PenPl, VMoneyR, VPrice, VRange, VCal, DateCk, DateW, DateRW, DateRM, VDate, VCal2, VAge, VAgeR -/
import Derived.Maps.OwnSet
import Derived.Maps.AppendAt
import Derived.Test.YtpanlcnoopmchaaGreatX1
import Derived.Test.YtpanlcnoopmchaaGreatX2
import Derived.Test.YtpanlcnoopmchaaGreatX3
set_option linter.unusedVariables false
set_option linter.unusedSimpArgs false
set_option maxRecDepth 100000

namespace Go.Proofs.YtpanlcnoopmchaaGreat
open Go Go.RowKit V
theorem nilAt {n p : Nat} {v : Value} (h : p < n) : List.take 1 (List.drop (p * 1) (List.replicate n v)) = [v] := by
  rw [Nat.mul_one, List.drop_replicate, List.take_replicate, show min 1 (n - p) = 1 by omega]; rfl
theorem rwsStep {l : List Du} {k f t : Nat} (hlt : k < l.length) (hf : (l.getD k default).fr = f) (ht : (l.getD k default).to = t) (hne : t ≠ f) {p m : Nat} {g' : Nat → List Value} (h : some ((Nt.part (l.take (k + 1)) p).length, ga e1 (Nt.part (l.take (k + 1)) p)) = some (m, g')) :
    ∃ g, putX (putX (putX (putX (fun p => some ((Nt.part (l.take k) p).length, ga e1 (Nt.part (l.take k) p))) f none) t none) f (some ((Nt.part (l.take k) f ++ [0 - (l.getD k default).am]).length, ga e1 (Nt.part (l.take k) f ++ [0 - (l.getD k default).am])))) t (some ((Nt.part (l.take k) t ++ [(l.getD k default).am]).length, ga e1 (Nt.part (l.take k) t ++ [(l.getD k default).am]))) p = some (m, g) ∧ ∀ j, j < m → g j = g' j := by
  refine ⟨g', ?_, fun _ _ => rfl⟩
  rw [← h, Nt.part_take hlt]
  unfold putX
  by_cases e : p = t
  · subst e
    rw [if_pos rfl, show Nt.one p (l.getD k default) = [(l.getD k default).am] by unfold Nt.one; rw [if_neg (by omega), if_pos ht]; rfl]
  · rw [if_neg e]
    by_cases e2 : p = f
    · subst e2
      rw [if_pos rfl, show Nt.one p (l.getD k default) = [0 - (l.getD k default).am] by unfold Nt.one; rw [if_pos hf, if_neg (by omega), Int.zero_sub]; rfl]
    · rw [if_neg e2, if_neg e, if_neg e2, show Nt.one p (l.getD k default) = [] by unfold Nt.one; rw [if_neg (by omega), if_neg (by omega)]; rfl, List.append_nil]
theorem valsTo_get (vs : Nat → Value) : ∀ (n k p : Nat), p < n → (valsTo vs k n)[p]? = some (.val (vs (k + p)))
  | 0, _, _, h => absurd h (Nat.not_lt_zero _)
  | n + 1, k, 0, _ => rfl
  | n + 1, k, p + 1, h => by
    show (valsTo vs (k + 1) n)[p]? = _
    rw [valsTo_get vs n (k + 1) p (by omega), show k + 1 + p = k + (p + 1) by omega]
theorem rwsOut {k p m : Nat} {Y : Nat → Nat × (Nat → List Value)} {g : Nat → List Value} (h : (if p < k + 1 then none else some (Y p)) = some (m, g)) : ∃ g', putX (fun p => if p < k then none else some (Y p)) k none p = some (m, g') ∧ ∀ j, j < m → g' j = g j := by
  split at h
  · cases h
  · refine ⟨g, ?_, fun _ _ => rfl⟩
    unfold putX
    rw [if_neg (by omega)]
    exact (if_neg (by omega)).trans h
theorem vals0 (vs : Nat → Value) {n p : Nat} (h : p < n) : (valsTo vs 0 n)[p]? = some (.val (vs p)) := by rw [valsTo_get vs n 0 p h, Nat.zero_add]
set_option maxHeartbeats 4000000 in
theorem v_stand (l : List Du) (hn : l.length ≤ 9223372036854775807) : V.FnR Tryz.prog 142 [.arr 3 l.length (ga encD l)] [.one (.ref 0)] (.tup [.one (.ref 1), .one (.val (.int .i64 (Nt.stE l)))]) [.row 3 1 (Nt.st l).length (ga e1 (Nt.st l))] := by
  refine V.FnR.mk_ V.Tok V.mixed Tryz.func142 rfl Tryz.ntmps142 (by kernel_rfl) rfl rfl rfl rfl ?_
  repeat' ((conv => whnf); first | refine V.NCond.mk ?_ | refine V.NPick.l ?_ | refine V.NIf.not_ ?_ | refine V.NIf.dec_ ?_ | refine V.a4 ?_ | refine V.a5 ?_ | refine V.NIf.mk (fun _ => ?_) (fun _ => ?_) | refine V.a7 ?_ | refine V.a8 ?_ | refine V.a9 ?_ | refine V.NBoth.mk ?_ ?_ | refine V.b1 ?_ | refine V.b2 ?_ | refine V.NTF.dec ?_ | refine V.b3 ?_ | refine V.b4 ?_ | ((first | refine V.Fn.k (v_ncheck _ hn) [0] rfl ?_ ?_ | refine V.Fn.q (v_ncheck _ hn) [0] rfl ?_ ?_ | refine V.Fn.a (v_ncheck _ hn) [0] rfl ?_ ?_); · exact V.D_) | (refine V.NDraw.any (by kernel_rfl) ?_) | fail)
  all_goals (conv => whnf)
  rotate_left
  · have e : Nt.stE l = N.chk l := if_pos (by omega)
    rw [show Nt.st l = [] from if_neg (by omega), e]
    (first | exact V.er 0 | exact V.er 1 | exact V.er 2 | exact V.er 3 | exact V.er 4 | exact V.er 5 | exact V.er 6 | exact V.er 7 | exact V.er 8 | exact V.er 9 | exact V.er 10 | exact V.er 11 | exact V.er 12 | exact V.er 13 | exact V.er 14 | exact V.er 15 | exact V.er 16 | exact V.er 17)
  have h0 : N.chk l = 0 := by omega
  obtain ⟨h60, hck⟩ := N.chk_ok h0
  refine V.NLoop.auto (fun (⟨k, vs⟩ : Nat × (Nat → Value)) => [(20, .one (.val (.int .i64 k)))]) (fun (⟨k, vs⟩ : Nat × (Nat → Value)) => [(2, .rws 179 3 1 31 vs fun p => some ((Nt.part (l.take k) p).length, ga e1 (Nt.part (l.take k) p)))]) [] [] (fun (⟨k, vs⟩ : Nat × (Nat → Value)) => l.length - k) (fun (⟨k, vs⟩ : Nat × (Nat → Value)) => k ≤ l.length) (0, fun _ => .slice none 0 0) (Nat.zero_le _) V.S_ (by (conv => whnf); exact ⟨⟨rfl, rfl, rfl, fun p hp => ⟨nilAt (n := 31) hp, fun m g h => ⟨rfl, (Prod.mk.inj (Option.some.inj h)).1.symm⟩⟩⟩, trivial⟩) (fun _ => ⟨rfl, rfl⟩) ?_; (conv => whnf); refine ⟨⟨rfl, rfl⟩, ?_⟩
  rintro ⟨k, vs⟩ hk
  replace hk : k ≤ l.length := hk
  by_cases hlt : k < l.length
  · have ok := N.ck_ok (hck _ (getD_mem hlt))
    obtain ⟨f, hf⟩ : ∃ f : Nat, (l.getD k default).fr = f := ⟨_, (Int.toNat_of_nonneg (by omega)).symm⟩
    obtain ⟨t, ht⟩ : ∃ t : Nat, (l.getD k default).to = t := ⟨_, (Int.toNat_of_nonneg (by omega)).symm⟩
    have hne : t ≠ f := fun e => by omega
    have l1 := Nt.part_len (l.take k) f
    have l2 := Nt.part_len (l.take k) t
    rw [List.length_take] at l1 l2
    repeat' ((conv => whnf); first | (refine NDraw.preR (by kernel_rfl) (Redo.out 2 f rfl (by omega) rfl (Redo.out 2 t rfl (by omega) (if_neg hne) (Redo.refl _ _ _ _))) ?_) | refine V.NCond.mk ?_ | refine V.NPick.l ?_ | refine V.NIf.not_ ?_ | refine V.NIf.dec_ ?_ | refine V.a4 ?_ | refine V.a5 ?_ | refine V.NIf.mk (fun _ => ?_) (fun _ => ?_) | refine V.a7 ?_ | refine V.a8 ?_ | refine V.a9 ?_ | refine V.NBoth.mk ?_ ?_ | refine V.b1 ?_ | refine V.b2 ?_ | refine V.NTF.dec ?_ | refine V.b3 ?_ | refine V.b4 ?_ | (refine NIdx.mk ⟨_, rfl, by omega, ?_⟩) | (refine NIdx.mk ⟨f, hf, by omega, ?_⟩) | (refine NIdx.mk ⟨t, ht, by omega, ?_⟩) | (refine NSrc.mk (.inr ⟨4, _, _, _, _, rfl, ?_⟩)) | (refine NSrc.mk (.inr ⟨5, _, _, _, _, rfl, ?_⟩)) | (refine NSame.mk rfl ?_) | (refine NAny.mk fun v => ?_) | (refine V.NDraw.any (by kernel_rfl) ?_) | fail)
    all_goals (conv => whnf)
    all_goals exact V.NBack.at_ (k + 1, _) [] (by show k + 1 ≤ l.length; omega) (by show l.length - (k + 1) < l.length - k; omega) V.S_ rfl ⟨⟨rfl, rfl, rfl, rfl, fun p hp => ⟨rfl, fun m g h => rwsStep hlt hf ht hne h⟩⟩, trivial⟩ V.S_ V.S_
  obtain rfl : k = l.length := by omega
  repeat' ((conv => whnf); first | refine V.NCond.mk ?_ | refine V.NPick.l ?_ | refine V.NIf.not_ ?_ | refine V.NIf.dec_ ?_ | refine V.a4 ?_ | refine V.a5 ?_ | refine V.NIf.mk (fun _ => ?_) (fun _ => ?_) | refine V.a7 ?_ | refine V.a8 ?_ | refine V.a9 ?_ | refine V.NBoth.mk ?_ ?_ | refine V.b1 ?_ | refine V.b2 ?_ | refine V.NTF.dec ?_ | refine V.b3 ?_ | refine V.b4 ?_ | (refine NMake.mk ⟨31, 31, rfl, rfl, by omega, by omega, by first | omega | decide | (simp; done) | (simp; omega), ?_⟩) | (refine V.NDraw.any (by kernel_rfl) ?_) | fail)
  all_goals (conv => whnf)
  refine V.NLoop.auto (fun (k : Nat) => [(50, .one (.val (.int .i64 k))), (8, .one (.ref 3))]) (fun (k : Nat) => [(2, .rws 179 3 1 31 vs fun p => if p < k then none else some ((Nt.part l p).length, ga e1 (Nt.part l p))), (3, .row 3 1 31 fun j => e1 (if j < k then M.sum (Nt.part l j) else 0))]) [] [] (fun (k : Nat) => 31 - k) (fun (k : Nat) => k ≤ 31 ∧ ∀ p, p < k → M.Amt (M.sum (Nt.part l p))) 0 ⟨by omega, fun p h => absurd h (Nat.not_lt_zero _)⟩ V.S_ (by (conv => whnf); exact ⟨⟨rfl, rfl, rfl, rfl, fun p hp => ⟨rfl, fun m g h => ⟨_, by rw [← h, List.take_length]; exact (if_neg (Nat.not_lt_zero p)).symm, fun _ _ => rfl⟩⟩⟩, ⟨rfl, rfl, rfl, fun j hj => (congrArg e1 (if_neg (Nat.not_lt_zero j))).symm⟩, trivial⟩) (fun _ => ⟨rfl, rfl⟩) ?_; (conv => whnf); refine ⟨⟨rfl, rfl⟩, ?_⟩
  rintro k ⟨hk, hJ⟩
  by_cases hlt : k < 31
  · have ln := Nt.part_len l k
    have pa := Nt.part_amt hck (p := k)
    repeat' ((conv => whnf); first | refine V.NCond.mk ?_ | refine V.NPick.l ?_ | refine V.NIf.not_ ?_ | refine V.NIf.dec_ ?_ | refine V.a4 ?_ | refine V.a5 ?_ | refine V.NIf.mk (fun _ => ?_) (fun _ => ?_) | refine V.a7 ?_ | refine V.a8 ?_ | refine V.a9 ?_ | refine V.NBoth.mk ?_ ?_ | refine V.b1 ?_ | refine V.b2 ?_ | refine V.NTF.dec ?_ | refine V.b3 ?_ | refine V.b4 ?_ | (refine NSel.mk ⟨k, _, rfl, vals0 vs hlt, ?_⟩) | (refine NCall.see 0 2 k rfl (by omega) (if_neg (Nat.lt_irrefl k)) rfl ?_) | ((first | refine V.Fn.k (v_ntotal (Nt.part l k) (by omega) pa) [4] rfl ?_ ?_ | refine V.Fn.q (v_ntotal (Nt.part l k) (by omega) pa) [4] rfl ?_ ?_ | refine V.Fn.a (v_ntotal (Nt.part l k) (by omega) pa) [4] rfl ?_ ?_); · exact V.D_) | (refine NIdx.mk ⟨k, rfl, by omega, ?_⟩) | (refine NPut.mk ⟨fun j => e1 (if j < k + 1 then M.sum (Nt.part l j) else 0), ?_, ?_⟩) | (refine V.NDraw.any (by kernel_rfl) ?_) | fail)
    all_goals (conv => whnf)
    · intro j hj
      rw [Nt.tov_amt pa (by assumption)]
      by_cases e : j = k
      · subst e
        rw [if_pos rfl]
        show e1 _ = _
        rw [if_pos (by omega)]
        rfl
      · rw [if_neg e]
        by_cases e2 : j < k
        · show e1 _ = e1 _
          rw [if_pos (by omega), if_pos e2]
        · show e1 _ = e1 _
          rw [if_neg (by omega), if_neg e2]
    · have hA : M.Amt (M.sum (Nt.part l k)) := by assumption
      exact V.NBack.at_ (k + 1) [] ⟨by omega, fun p hp => (Nat.lt_succ_iff_lt_or_eq.1 hp).elim (hJ p) (fun e => e ▸ hA)⟩ (by omega) V.S_ rfl ⟨⟨rfl, rfl, rfl, rfl, fun p hp => ⟨rfl, fun m g h => rwsOut h⟩⟩, ⟨rfl, rfl, rfl, fun _ _ => rfl⟩, trivial⟩ V.S_ V.S_
    · have hA : ¬ M.Amt (M.sum (Nt.part l k)) := by assumption
      have e : Nt.stE l = 8 := Nt.stE_no h0 fun w => hA (w k hlt)
      rw [show Nt.st l = [] from if_neg (by omega), e]
      (first | exact V.er 0 | exact V.er 1 | exact V.er 2 | exact V.er 3 | exact V.er 4 | exact V.er 5 | exact V.er 6 | exact V.er 7 | exact V.er 8 | exact V.er 9 | exact V.er 10 | exact V.er 11 | exact V.er 12 | exact V.er 13 | exact V.er 14 | exact V.er 15 | exact V.er 16 | exact V.er 17)
  obtain rfl : k = 31 := by omega
  have e : Nt.stE l = 0 := Nt.stE_ok h0 hJ
  rw [show Nt.st l = Nt.sums l 31 from if_pos e, e]
  repeat' ((conv => whnf); first | refine V.NCond.mk ?_ | refine V.NPick.l ?_ | refine V.NIf.not_ ?_ | refine V.NIf.dec_ ?_ | refine V.a4 ?_ | refine V.a5 ?_ | refine V.NIf.mk (fun _ => ?_) (fun _ => ?_) | refine V.a7 ?_ | refine V.a8 ?_ | refine V.a9 ?_ | refine V.NBoth.mk ?_ ?_ | refine V.b1 ?_ | refine V.b2 ?_ | refine V.NTF.dec ?_ | refine V.b3 ?_ | refine V.b4 ?_ | (refine V.NDraw.any (by kernel_rfl) ?_) | fail)
  all_goals (conv => whnf)
  (first | (refine NRet.mk_ [some 0] rfl ?_ ?_; (· ((repeat' (first | exact rfl | exact trivial | refine ⟨?_, ?_⟩)); done)); (· (refine ⟨?_, trivial⟩; refine ⟨rfl, rfl, by simp [Nt.sums], ?_⟩; intro j hj; show e1 _ = e1 _; rw [if_pos hj, getD_at (by simp [Nt.sums]; omega)]; simp [Nt.sums]; done))) | (refine NRet.mk_ [some 1] rfl ?_ ?_; (· ((repeat' (first | exact rfl | exact trivial | refine ⟨?_, ?_⟩)); done)); (· (refine ⟨?_, trivial⟩; refine ⟨rfl, rfl, by simp [Nt.sums], ?_⟩; intro j hj; show e1 _ = e1 _; rw [if_pos hj, getD_at (by simp [Nt.sums]; omega)]; simp [Nt.sums]; done))) | (refine NRet.mk_ [some 2] rfl ?_ ?_; (· ((repeat' (first | exact rfl | exact trivial | refine ⟨?_, ?_⟩)); done)); (· (refine ⟨?_, trivial⟩; refine ⟨rfl, rfl, by simp [Nt.sums], ?_⟩; intro j hj; show e1 _ = e1 _; rw [if_pos hj, getD_at (by simp [Nt.sums]; omega)]; simp [Nt.sums]; done))) | (refine NRet.mk_ [some 3] rfl ?_ ?_; (· ((repeat' (first | exact rfl | exact trivial | refine ⟨?_, ?_⟩)); done)); (· (refine ⟨?_, trivial⟩; refine ⟨rfl, rfl, by simp [Nt.sums], ?_⟩; intro j hj; show e1 _ = e1 _; rw [if_pos hj, getD_at (by simp [Nt.sums]; omega)]; simp [Nt.sums]; done))) | (refine NRet.mk_ [some 4] rfl ?_ ?_; (· ((repeat' (first | exact rfl | exact trivial | refine ⟨?_, ?_⟩)); done)); (· (refine ⟨?_, trivial⟩; refine ⟨rfl, rfl, by simp [Nt.sums], ?_⟩; intro j hj; show e1 _ = e1 _; rw [if_pos hj, getD_at (by simp [Nt.sums]; omega)]; simp [Nt.sums]; done))) | (refine NRet.mk_ [some 5] rfl ?_ ?_; (· ((repeat' (first | exact rfl | exact trivial | refine ⟨?_, ?_⟩)); done)); (· (refine ⟨?_, trivial⟩; refine ⟨rfl, rfl, by simp [Nt.sums], ?_⟩; intro j hj; show e1 _ = e1 _; rw [if_pos hj, getD_at (by simp [Nt.sums]; omega)]; simp [Nt.sums]; done))) | (refine NRet.mk_ [some 6] rfl ?_ ?_; (· ((repeat' (first | exact rfl | exact trivial | refine ⟨?_, ?_⟩)); done)); (· (refine ⟨?_, trivial⟩; refine ⟨rfl, rfl, by simp [Nt.sums], ?_⟩; intro j hj; show e1 _ = e1 _; rw [if_pos hj, getD_at (by simp [Nt.sums]; omega)]; simp [Nt.sums]; done))) | (refine NRet.mk_ [some 7] rfl ?_ ?_; (· ((repeat' (first | exact rfl | exact trivial | refine ⟨?_, ?_⟩)); done)); (· (refine ⟨?_, trivial⟩; refine ⟨rfl, rfl, by simp [Nt.sums], ?_⟩; intro j hj; show e1 _ = e1 _; rw [if_pos hj, getD_at (by simp [Nt.sums]; omega)]; simp [Nt.sums]; done))) | (refine NRet.mk_ [some 8] rfl ?_ ?_; (· ((repeat' (first | exact rfl | exact trivial | refine ⟨?_, ?_⟩)); done)); (· (refine ⟨?_, trivial⟩; refine ⟨rfl, rfl, by simp [Nt.sums], ?_⟩; intro j hj; show e1 _ = e1 _; rw [if_pos hj, getD_at (by simp [Nt.sums]; omega)]; simp [Nt.sums]; done))) | (refine NRet.mk_ [some 9] rfl ?_ ?_; (· ((repeat' (first | exact rfl | exact trivial | refine ⟨?_, ?_⟩)); done)); (· (refine ⟨?_, trivial⟩; refine ⟨rfl, rfl, by simp [Nt.sums], ?_⟩; intro j hj; show e1 _ = e1 _; rw [if_pos hj, getD_at (by simp [Nt.sums]; omega)]; simp [Nt.sums]; done))) | (refine NRet.mk_ [some 10] rfl ?_ ?_; (· ((repeat' (first | exact rfl | exact trivial | refine ⟨?_, ?_⟩)); done)); (· (refine ⟨?_, trivial⟩; refine ⟨rfl, rfl, by simp [Nt.sums], ?_⟩; intro j hj; show e1 _ = e1 _; rw [if_pos hj, getD_at (by simp [Nt.sums]; omega)]; simp [Nt.sums]; done))) | (refine NRet.mk_ [some 11] rfl ?_ ?_; (· ((repeat' (first | exact rfl | exact trivial | refine ⟨?_, ?_⟩)); done)); (· (refine ⟨?_, trivial⟩; refine ⟨rfl, rfl, by simp [Nt.sums], ?_⟩; intro j hj; show e1 _ = e1 _; rw [if_pos hj, getD_at (by simp [Nt.sums]; omega)]; simp [Nt.sums]; done))) | (refine NRet.mk_ [some 12] rfl ?_ ?_; (· ((repeat' (first | exact rfl | exact trivial | refine ⟨?_, ?_⟩)); done)); (· (refine ⟨?_, trivial⟩; refine ⟨rfl, rfl, by simp [Nt.sums], ?_⟩; intro j hj; show e1 _ = e1 _; rw [if_pos hj, getD_at (by simp [Nt.sums]; omega)]; simp [Nt.sums]; done))) | (refine NRet.mk_ [some 13] rfl ?_ ?_; (· ((repeat' (first | exact rfl | exact trivial | refine ⟨?_, ?_⟩)); done)); (· (refine ⟨?_, trivial⟩; refine ⟨rfl, rfl, by simp [Nt.sums], ?_⟩; intro j hj; show e1 _ = e1 _; rw [if_pos hj, getD_at (by simp [Nt.sums]; omega)]; simp [Nt.sums]; done))) | (refine NRet.mk_ [some 14] rfl ?_ ?_; (· ((repeat' (first | exact rfl | exact trivial | refine ⟨?_, ?_⟩)); done)); (· (refine ⟨?_, trivial⟩; refine ⟨rfl, rfl, by simp [Nt.sums], ?_⟩; intro j hj; show e1 _ = e1 _; rw [if_pos hj, getD_at (by simp [Nt.sums]; omega)]; simp [Nt.sums]; done))) | (refine NRet.mk_ [some 15] rfl ?_ ?_; (· ((repeat' (first | exact rfl | exact trivial | refine ⟨?_, ?_⟩)); done)); (· (refine ⟨?_, trivial⟩; refine ⟨rfl, rfl, by simp [Nt.sums], ?_⟩; intro j hj; show e1 _ = e1 _; rw [if_pos hj, getD_at (by simp [Nt.sums]; omega)]; simp [Nt.sums]; done))) | (refine NRet.mk_ [some 16] rfl ?_ ?_; (· ((repeat' (first | exact rfl | exact trivial | refine ⟨?_, ?_⟩)); done)); (· (refine ⟨?_, trivial⟩; refine ⟨rfl, rfl, by simp [Nt.sums], ?_⟩; intro j hj; show e1 _ = e1 _; rw [if_pos hj, getD_at (by simp [Nt.sums]; omega)]; simp [Nt.sums]; done))) | (refine NRet.mk_ [some 17] rfl ?_ ?_; (· ((repeat' (first | exact rfl | exact trivial | refine ⟨?_, ?_⟩)); done)); (· (refine ⟨?_, trivial⟩; refine ⟨rfl, rfl, by simp [Nt.sums], ?_⟩; intro j hj; show e1 _ = e1 _; rw [if_pos hj, getD_at (by simp [Nt.sums]; omega)]; simp [Nt.sums]; done))))
end Go.Proofs.YtpanlcnoopmchaaGreat

namespace Go.Proofs.YtpanlcnoopmchaaGreat
open Go Go.RowKit V
theorem v_amcheck (a : Int) : V.Fn Tryz.prog 91 [] [.one (.val (.int .i64 a))] (.int .i64 (M.chk a)) := by
  refine V.Fn.mk_ V.Tok V.mixed Tryz.func91 rfl Tryz.ntmps91 (by kernel_rfl) rfl rfl ?_
  repeat' ((conv => whnf); first | refine V.NCond.mk ?_ | refine V.NPick.l ?_ | refine V.NIf.not_ ?_ | refine V.NIf.dec_ ?_ | refine V.a4 ?_ | refine V.a5 ?_ | refine V.NIf.mk (fun _ => ?_) (fun _ => ?_) | refine V.a7 ?_ | refine V.a8 ?_ | refine V.a9 ?_ | refine V.NBoth.mk ?_ ?_ | refine V.b1 ?_ | refine V.b2 ?_ | refine V.NTF.dec ?_ | refine V.b3 ?_ | refine V.b4 ?_ | (first | refine V.Fn.k0 (v_rbetween _ _ _) rfl ?_ | refine V.Fn.q0 (v_rbetween _ _ _) rfl ?_ | refine V.Fn.a0 (v_rbetween _ _ _) rfl ?_) | (refine V.NDraw.any (by kernel_rfl) ?_) | fail)
  all_goals ((conv => whnf); refine congrArg _ ?_; unfold M.chk M.Amt; (repeat' split) <;> first | rfl | omega | (exfalso; omega) | (simp_all; done) | (simp_all; omega))
theorem fin_ib {x u : Int} {p : Prop} {b : Bool} (h1 : u = x) (h2 : b = true ↔ p) : Fin1 (.one (.val (.int .i64 x))) (.int .i64 u) ∧ FinL [.one (.prop p)] [.bool b] := ⟨V.fin1 h1, ⟨b, rfl, h2.symm⟩, trivial⟩
set_option maxHeartbeats 1000000 in
theorem v_sumof (l : List Int) (hn : l.length ≤ 100000) (hJ : ∀ a ∈ l, M.Amt a) : V.Fn Tryz.prog 35 [.arr 1 l.length (ga e1 l)] [.one (.ref 0)] (.tuple #[.int .i64 (M.sofV l), .bool (decide (M.Amt (M.sum l)))]) := by
  refine V.Fn.mk_ V.Tok V.mixed Tryz.func35 rfl Tryz.ntmps35 (by kernel_rfl) rfl rfl ?_
  repeat' ((conv => whnf); first | refine V.NCond.mk ?_ | refine V.NPick.l ?_ | refine V.NIf.not_ ?_ | refine V.NIf.dec_ ?_ | refine V.a4 ?_ | refine V.a5 ?_ | refine V.NIf.mk (fun _ => ?_) (fun _ => ?_) | refine V.a7 ?_ | refine V.a8 ?_ | refine V.a9 ?_ | refine V.NBoth.mk ?_ ?_ | refine V.b1 ?_ | refine V.b2 ?_ | refine V.NTF.dec ?_ | refine V.b3 ?_ | refine V.b4 ?_ | (refine V.NDraw.any (by kernel_rfl) ?_) | fail)
  refine V.NLoop.auto (fun (k : Nat) => [(6, .one (.val (.int .i64 k))), (4, .one (.ref 1)), (5, .one (.ref 2))]) (fun (k : Nat) => [(1, .row 3 1 (M.mo (l.take k)).length (ga e1 (M.mo (l.take k)))), (2, .row 3 1 (M.le (l.take k)).length (ga e1 (M.le (l.take k))))]) [] [] (fun (k : Nat) => l.length - k) (fun (k : Nat) => k ≤ l.length) 0 (Nat.zero_le _) V.S_ V.S_ (fun _ => ⟨rfl, rfl⟩) ?_; (conv => whnf); refine ⟨⟨rfl, rfl⟩, ?_⟩
  rintro k hk
  obtain ⟨m1, m2⟩ := M.mole_len l k hk
  repeat' ((conv => whnf); first | refine V.NCond.mk ?_ | refine V.NPick.l ?_ | refine V.NIf.not_ ?_ | refine V.NIf.dec_ ?_ | refine V.a4 ?_ | refine V.a5 ?_ | refine V.NIf.mk (fun _ => ?_) (fun _ => ?_) | refine V.a7 ?_ | refine V.a8 ?_ | refine V.a9 ?_ | refine V.NBoth.mk ?_ ?_ | refine V.b1 ?_ | refine V.b2 ?_ | refine V.NTF.dec ?_ | refine V.b3 ?_ | refine V.b4 ?_ | (refine NIdx.mk ⟨_, rfl, by omega, ?_⟩) | (refine V.NDraw.any (by kernel_rfl) ?_) | fail)
  all_goals (conv => whnf)
  · rename_i hlt h0
    have hlt : k < l.length := by omega
    rw [getD_at hlt] at h0
    exact V.NBack.at_ (k + 1) [(1, 4)] (by omega) (by omega) V.S_ rfl ⟨ObLe.as_ ((M.mo_snoc hlt).trans ((if_pos h0).trans (by rw [getD_at hlt]))), ObLe.as_ ((M.le_snoc hlt).trans (if_pos h0)), trivial⟩ V.S_ V.S_
  · rename_i hlt h0
    have hlt : k < l.length := by omega
    rw [getD_at hlt] at h0
    exact V.NBack.at_ (k + 1) [(2, 4)] (by omega) (by omega) V.S_ rfl ⟨ObLe.as_ ((M.mo_snoc hlt).trans (if_neg h0)), ObLe.as_ ((M.le_snoc hlt).trans ((if_neg h0).trans (by rw [getD_at hlt]))), trivial⟩ V.S_ V.S_
  obtain rfl : k = l.length := by omega
  have eT : l.take l.length = l := List.take_length
  generalize l.take l.length = T at *
  replace eT := eT.symm
  subst eT
  have hs := M.mole_sum l
  have b1 : ∀ i : Nat, i < (M.mo l).length → 0 ≤ (M.mo l).getD (0 + i) default ∧ (M.mo l).getD (0 + i) default ≤ 1152921504606846976 := fun i h => by
    rw [Nat.zero_add, getD_at h]; exact ⟨M.mo_pos l _ (List.getElem_mem h), (hJ _ (List.mem_filter.1 (List.getElem_mem h)).1).2⟩
  have b2 : ∀ i : Nat, i < (M.le l).length → (M.le l).getD (0 + i) default ≤ 0 ∧ -1152921504606846976 ≤ (M.le l).getD (0 + i) default := fun i h => by
    rw [Nat.zero_add, getD_at h]; exact ⟨M.le_neg l _ (List.getElem_mem h), (hJ _ (List.mem_filter.1 (List.getElem_mem h)).1).1⟩
  refine V.NLoop.auto (fun (⟨i, j, s⟩ : Nat × Nat × Int) => [(7, .one (.val (.int .i64 s))), (4, .one (.ref 1)), (5, .one (.ref 2))]) (fun (⟨i, j, s⟩ : Nat × Nat × Int) => [(1, .arr 1 ((M.mo l).length - i) fun k => e1 ((M.mo l).getD (k + i) default)), (2, .arr 1 ((M.le l).length - j) fun k => e1 ((M.le l).getD (k + j) default))]) [] [] (fun (⟨i, j, s⟩ : Nat × Nat × Int) => (M.mo l).length + (M.le l).length - i - j) (fun (⟨i, j, s⟩ : Nat × Nat × Int) => (i ≤ (M.mo l).length ∧ j ≤ (M.le l).length) ∧ s = M.sum ((M.mo l).take i) + M.sum ((M.le l).take j) ∧ -2305843009213693952 ≤ s ∧ s ≤ 2305843009213693952) (0, 0, 0) ⟨by simp, by simp [M.sum], by omega, by omega⟩ V.S_ V.S_ (fun _ => ⟨rfl, rfl⟩) ?_; (conv => whnf); refine ⟨⟨rfl, rfl⟩, ?_⟩
  rintro ⟨i, j, s⟩ ⟨hij, hs1, hs2⟩
  repeat' ((conv => whnf); first | refine V.NCond.mk ?_ | refine V.NPick.l ?_ | refine V.NIf.not_ ?_ | refine V.NIf.dec_ ?_ | refine V.a4 ?_ | refine V.a5 ?_ | refine V.NIf.mk (fun _ => ?_) (fun _ => ?_) | refine V.a7 ?_ | refine V.a8 ?_ | refine V.a9 ?_ | refine V.NBoth.mk ?_ ?_ | refine V.b1 ?_ | refine V.b2 ?_ | refine V.NTF.dec ?_ | refine V.b3 ?_ | refine V.b4 ?_ | (refine NIdx.mk ⟨0, rfl, by omega, ?_⟩) | (first | refine V.Fn.k0 (v_amcheck _) rfl ?_ | refine V.Fn.q0 (v_amcheck _) rfl ?_ | refine V.Fn.a0 (v_amcheck _) rfl ?_) | (first | refine V.Fn.k0 (v_rbetween _ _ _) rfl ?_ | refine V.Fn.q0 (v_rbetween _ _ _) rfl ?_ | refine V.Fn.a0 (v_rbetween _ _ _) rfl ?_) | (refine NCut.mk ⟨1, _, rfl, rfl, by omega, by omega, ?_⟩) | (refine V.NWrap.ok (by have := b1 i (by omega); omega) (by have := b1 i (by omega); omega) ?_) | (refine V.NWrap.ok (by have := b2 j (by omega); omega) (by have := b2 j (by omega); omega) ?_) | (refine V.NDraw.any (by kernel_rfl) ?_) | fail)
  all_goals (conv => whnf)
  all_goals have d1 := M.sum_drop_pos (M.mo_pos l) i
  all_goals have d2 := M.sum_drop_neg (M.le_neg l) j
  all_goals first
    | (refine V.NBack.at_ (i + 1, j, s + (M.mo l).getD (0 + i) default) [(1, 3)] ⟨⟨by omega, by omega⟩, ?_, by omega, by omega⟩ (by simp only; omega) V.S_ rfl ⟨ObLe.cut_ (by omega) (by omega), ⟨rfl, rfl, fun _ _ => rfl⟩, trivial⟩ V.S_ V.S_; omega)
    | (refine V.NBack.at_ (i, j + 1, s + (M.le l).getD (0 + j) default) [(2, 3)] ⟨⟨by omega, by omega⟩, ?_, by omega, by omega⟩ (by simp only; omega) V.S_ rfl ⟨⟨rfl, rfl, fun _ _ => rfl⟩, ObLe.cut_ (by omega) (by omega), trivial⟩ V.S_ V.S_; omega)
    | (refine fin_ib ?_ ?_
       · unfold M.sofV; split <;> omega
       · have q := @M.chk_yes s; have q2 := @M.chk_no s
         have e : s = M.sum l := by omega
         rw [← e]
         by_cases z : M.Amt s
         · simp [z, q z]
         · simp [z, q2 z])
    | (refine ⟨V.fin1 ?_, congrArg Value.bool (decide_eq_false ?_).symm, trivial⟩
       · unfold M.sofV; rw [if_neg]; have := b1 i; have := b2 j; omega
       · unfold M.Amt; have := b1 i; have := b2 j; omega)
end Go.Proofs.YtpanlcnoopmchaaGreat

namespace Go.Proofs.YtpanlcnoopmchaaGreat
open Go Go.RowKit V
set_option maxHeartbeats 4000000 in
theorem v_rdue (l : List Du) (p q : Int) (hn : l.length ≤ 60) (hck : ∀ d ∈ l, N.ck1 d = 0) : V.FnR Tryz.prog 147 [.arr 3 l.length (ga encD l)] [.one (.ref 0), .one (.val (.int .i64 p)), .one (.val (.int .i64 q))] (.one (.ref 1)) [.row 3 1 (Nt.due l p q).length (ga e1 (Nt.due l p q))] := by
  refine V.FnR.mk_ V.Tok V.mixed Tryz.func147 rfl Tryz.ntmps147 (by kernel_rfl) rfl rfl rfl rfl ?_
  repeat' ((conv => whnf); first | refine V.NCond.mk ?_ | refine V.NPick.l ?_ | refine V.NIf.not_ ?_ | refine V.NIf.dec_ ?_ | refine V.a4 ?_ | refine V.a5 ?_ | refine V.NIf.mk (fun _ => ?_) (fun _ => ?_) | refine V.a7 ?_ | refine V.a8 ?_ | refine V.a9 ?_ | refine V.NBoth.mk ?_ ?_ | refine V.b1 ?_ | refine V.b2 ?_ | refine V.NTF.dec ?_ | refine V.b3 ?_ | refine V.b4 ?_ | (refine V.NDraw.any (by kernel_rfl) ?_) | fail)
  refine V.NLoop.auto (fun (k : Nat) => [(8, .one (.val (.int .i64 k))), (7, .one (.ref 2))]) (fun (k : Nat) => [(2, .row 3 1 (Nt.due (l.take k) p q).length (ga e1 (Nt.due (l.take k) p q)))]) [] [] (fun (k : Nat) => l.length - k) (fun (k : Nat) => k ≤ l.length) 0 (Nat.zero_le _) V.S_ V.S_ (fun _ => ⟨rfl, rfl⟩) ?_; (conv => whnf); refine ⟨⟨rfl, rfl⟩, ?_⟩
  rintro k hk
  by_cases hlt : k < l.length
  · have ok := N.ck_ok (hck _ (getD_mem hlt))
    have l1 := Nt.due_len (l.take k) p q
    rw [List.length_take] at l1
    have ds := Nt.due_take hlt p q
    unfold Nt.two at ds
    repeat' ((conv => whnf); first | refine V.NCond.mk ?_ | refine V.NPick.l ?_ | refine V.NIf.not_ ?_ | refine V.NIf.dec_ ?_ | refine V.a4 ?_ | refine V.a5 ?_ | refine V.NIf.mk (fun _ => ?_) (fun _ => ?_) | refine V.a7 ?_ | refine V.a8 ?_ | refine V.a9 ?_ | refine V.NBoth.mk ?_ ?_ | refine V.b1 ?_ | refine V.b2 ?_ | refine V.NTF.dec ?_ | refine V.b3 ?_ | refine V.b4 ?_ | (refine NIdx.mk ⟨_, rfl, by omega, ?_⟩) | (refine V.NDraw.any (by kernel_rfl) ?_) | fail)
    all_goals (conv => whnf)
    all_goals first
      | exact V.NBack.at_ (k + 1) [] (by omega) (by omega) V.S_ rfl ⟨ObLe.as_ (ds.trans (by rw [if_neg (by omega), if_neg (by omega), List.append_nil, List.append_nil])), trivial⟩ V.S_ V.S_
      | exact V.NBack.at_ (k + 1) [(2, 4)] (by omega) (by omega) V.S_ rfl ⟨ObLe.as_ (ds.trans (by rw [if_pos (by omega), if_neg (by omega)]; rfl)), trivial⟩ V.S_ V.S_
      | exact V.NBack.at_ (k + 1) [(2, 4)] (by omega) (by omega) V.S_ rfl ⟨ObLe.as_ (ds.trans (by rw [if_neg (by omega), if_pos (by omega), Int.zero_sub]; rfl)), trivial⟩ V.S_ V.S_
      | skip
  obtain rfl : k = l.length := by omega
  rw [show l.take l.length = l from List.take_length]
  repeat' ((conv => whnf); first | refine V.NCond.mk ?_ | refine V.NPick.l ?_ | refine V.NIf.not_ ?_ | refine V.NIf.dec_ ?_ | refine V.a4 ?_ | refine V.a5 ?_ | refine V.NIf.mk (fun _ => ?_) (fun _ => ?_) | refine V.a7 ?_ | refine V.a8 ?_ | refine V.a9 ?_ | refine V.NBoth.mk ?_ ?_ | refine V.b1 ?_ | refine V.b2 ?_ | refine V.NTF.dec ?_ | refine V.b3 ?_ | refine V.b4 ?_ | (refine V.NDraw.any (by kernel_rfl) ?_) | fail)
  all_goals (conv => whnf)
  exact NRet.mk_ [some 2] rfl rfl ⟨⟨rfl, rfl, rfl, fun _ _ => rfl⟩, trivial⟩
set_option maxHeartbeats 4000000 in
theorem v_rstand (l : List Du) (hn : l.length ≤ 9223372036854775807) : V.FnR Tryz.prog 108 [.arr 3 l.length (ga encD l)] [.one (.ref 0)] (.tup [.one (.ref 1), .one (.val (.int .i64 (Nt.stE l)))]) [.row 3 1 (Nt.st l).length (ga e1 (Nt.st l))] := by
  refine V.FnR.mk_ V.Tok V.mixed Tryz.func108 rfl Tryz.ntmps108 (by kernel_rfl) rfl rfl rfl rfl ?_
  repeat' ((conv => whnf); first | refine V.NCond.mk ?_ | refine V.NPick.l ?_ | refine V.NIf.not_ ?_ | refine V.NIf.dec_ ?_ | refine V.a4 ?_ | refine V.a5 ?_ | refine V.NIf.mk (fun _ => ?_) (fun _ => ?_) | refine V.a7 ?_ | refine V.a8 ?_ | refine V.a9 ?_ | refine V.NBoth.mk ?_ ?_ | refine V.b1 ?_ | refine V.b2 ?_ | refine V.NTF.dec ?_ | refine V.b3 ?_ | refine V.b4 ?_ | ((first | refine V.Fn.k (v_netcheck _ hn) [0] rfl ?_ ?_ | refine V.Fn.q (v_netcheck _ hn) [0] rfl ?_ ?_ | refine V.Fn.a (v_netcheck _ hn) [0] rfl ?_ ?_); · exact V.D_) | (refine V.NDraw.any (by kernel_rfl) ?_) | fail)
  all_goals (conv => whnf)
  rotate_left
  · have e : Nt.stE l = N.chk l := if_pos (by omega)
    rw [show Nt.st l = [] from if_neg (by omega), e]
    (first | exact V.er 0 | exact V.er 1 | exact V.er 2 | exact V.er 3 | exact V.er 4 | exact V.er 5 | exact V.er 6 | exact V.er 7 | exact V.er 8 | exact V.er 9 | exact V.er 10 | exact V.er 11 | exact V.er 12 | exact V.er 13 | exact V.er 14 | exact V.er 15 | exact V.er 16 | exact V.er 17)
  have h0 : N.chk l = 0 := by omega
  obtain ⟨h60, hck⟩ := N.chk_ok h0
  refine V.NLoop.auto (fun (k : Nat) => [(6, .one (.val (.int .i64 k))), (5, .one (.ref 2))]) (fun (k : Nat) => [(2, .row 3 1 (Nt.sums l k).length (ga e1 (Nt.sums l k)))]) [] [] (fun (k : Nat) => 31 - k) (fun (k : Nat) => k ≤ 31 ∧ ∀ p, p < k → M.Amt (M.sum (Nt.part l p))) 0 ⟨by omega, fun p h => absurd h (Nat.not_lt_zero _)⟩ V.S_ V.S_ (fun _ => ⟨rfl, rfl⟩) ?_; (conv => whnf); refine ⟨⟨rfl, rfl⟩, ?_⟩
  rintro k ⟨hk, hJ⟩
  by_cases hlt : k < 31
  · have ln := Nt.due_len l k (-1)
    have pa := Nt.due_amt hck (p := k) (q := -1)
    have sl : (Nt.sums l k).length = k := by simp [Nt.sums]
    have du := v_rdue l k (-1) h60 hck
    have su := v_sumof (Nt.due l k (-1)) (by omega) pa
    rw [Nt.due_part hck k] at du su pa
    repeat' ((conv => whnf); first | refine V.NCond.mk ?_ | refine V.NPick.l ?_ | refine V.NIf.not_ ?_ | refine V.NIf.dec_ ?_ | refine V.a4 ?_ | refine V.a5 ?_ | refine V.NIf.mk (fun _ => ?_) (fun _ => ?_) | refine V.a7 ?_ | refine V.a8 ?_ | refine V.a9 ?_ | refine V.NBoth.mk ?_ ?_ | refine V.b1 ?_ | refine V.b2 ?_ | refine V.NTF.dec ?_ | refine V.b3 ?_ | refine V.b4 ?_ | ((first | refine V.FnR.k_ (du) [0] rfl ?_ ?_ | refine V.FnR.a_ (du) [0] rfl ?_ ?_); · exact V.D_) | ((first | refine V.Fn.k (su) [3] rfl ?_ ?_ | refine V.Fn.q (su) [3] rfl ?_ ?_ | refine V.Fn.a (su) [3] rfl ?_ ?_); · exact V.D_) | (refine V.NDraw.any (by kernel_rfl) ?_) | fail)
    all_goals (conv => whnf)
    · have hA : M.Amt (M.sum (Nt.part l k)) := by assumption
      exact V.NBack.at_ (k + 1) [(2, 5)] ⟨by omega, fun p hp => (Nat.lt_succ_iff_lt_or_eq.1 hp).elim (hJ p) (fun e => e ▸ hA)⟩ (by omega) V.S_ rfl ⟨ObLe.as_ ((Nt.sums_snoc l k).trans (by rw [Nt.sof_amt hA])), trivial⟩ V.S_ V.S_
    · have hA : ¬ M.Amt (M.sum (Nt.part l k)) := by assumption
      have e : Nt.stE l = 8 := Nt.stE_no h0 fun w => hA (w k hlt)
      rw [show Nt.st l = [] from if_neg (by omega), e]
      (first | exact V.er 0 | exact V.er 1 | exact V.er 2 | exact V.er 3 | exact V.er 4 | exact V.er 5 | exact V.er 6 | exact V.er 7 | exact V.er 8 | exact V.er 9 | exact V.er 10 | exact V.er 11 | exact V.er 12 | exact V.er 13 | exact V.er 14 | exact V.er 15 | exact V.er 16 | exact V.er 17)
  obtain rfl : k = 31 := by omega
  have e : Nt.stE l = 0 := Nt.stE_ok h0 hJ
  rw [show Nt.st l = Nt.sums l 31 from if_pos e, e]
  repeat' ((conv => whnf); first | refine V.NCond.mk ?_ | refine V.NPick.l ?_ | refine V.NIf.not_ ?_ | refine V.NIf.dec_ ?_ | refine V.a4 ?_ | refine V.a5 ?_ | refine V.NIf.mk (fun _ => ?_) (fun _ => ?_) | refine V.a7 ?_ | refine V.a8 ?_ | refine V.a9 ?_ | refine V.NBoth.mk ?_ ?_ | refine V.b1 ?_ | refine V.b2 ?_ | refine V.NTF.dec ?_ | refine V.b3 ?_ | refine V.b4 ?_ | (refine V.NDraw.any (by kernel_rfl) ?_) | fail)
  all_goals (conv => whnf)
  (first | exact V.erf 0 | exact V.erf 1 | exact V.erf 2 | exact V.erf 3 | exact V.erf 4 | exact V.erf 5 | exact V.erf 6 | exact V.erf 7 | exact V.erf 8 | exact V.erf 9 | exact V.erf 10 | exact V.erf 11 | exact V.erf 12 | exact V.erf 13 | exact V.erf 14 | exact V.erf 15 | exact V.erf 16 | exact V.erf 17)
end Go.Proofs.YtpanlcnoopmchaaGreat

namespace Go.Proofs.YtpanlcnoopmchaaGreat
structure Tm where
  ex : Int
  bu : Int
  de : Int
  ra : Int
instance : Inhabited Tm := ⟨⟨0, 0, 0, 0⟩⟩
def encTm (p : Tm) : List Go.Value := [.int .i64 p.ex, .int .i64 p.bu, .int .i64 p.de, .int .i64 p.ra]
end Go.Proofs.YtpanlcnoopmchaaGreat

namespace Go.Proofs.YtpanlcnoopmchaaGreat
namespace Ca
theorem nx_here {c : Cl} {n : Int} (h : Day n) (k : op c n = 1) : stU c (n - 1) 1 = n :=
  stU_is ⟨by omega, h.2, k, by
    have := cnt_one c (n - 1)
    rw [show n - 1 + 1 = n by omega] at this
    omega⟩
def Mo (k n : Int) : Prop := 0 ≤ k ∧ D.yO k = D.yO n ∧ D.mO k = D.mO n
instance (k n : Int) : Decidable (Mo k n) := by unfold Mo; exact inferInstance
theorem toV_pos {d : Int} (h : 0 ≤ d) : toV d = d ∧ toE d = 0 := ⟨if_neg (by omega), if_neg (by omega)⟩
theorem toE_ok {d : Int} (h : toE d = 0) : 0 ≤ d ∧ toV d = d := by
  unfold toE at h
  split at h
  · omega
  · exact ⟨by omega, if_neg ‹_›⟩
theorem sE_ok {c : Cl} {n m : Int} (h : sE c n m = 0) : chk c = 0 ∧ Day n ∧ (-500 ≤ m ∧ m ≤ 500) ∧ sV c n m = stp c n m ∧ Day (stp c n m) := by
  unfold sE at h
  split at h
  · exact absurd h ‹_›
  · rename_i q
    obtain ⟨a, b, d⟩ := sE0_ok (by omega : sE0 c n m = 0)
    obtain ⟨k, hd, hk⟩ := e1_ok a
    obtain ⟨u, v⟩ := toE_ok h
    refine ⟨hk, hd, ⟨b, d⟩, (if_neg q).trans v, ?_⟩
    rcases stp_cases (c := c) (m := m) hd with z | z
    · omega
    · exact z
theorem sE_of {c : Cl} {n m : Int} (h : chk c = 0) (hn : Day n) (hm : -500 ≤ m ∧ m ≤ 500) (hs : 0 ≤ stp c n m) : sE c n m = 0 ∧ sV c n m = stp c n m := by
  have e : sE0 c n m = 0 := by unfold sE0; rw [if_neg (by rw [e1_of h hn]; omega), if_neg (by omega)]
  have := toV_pos hs
  exact ⟨(if_neg (by omega)).trans this.2, (if_neg (by omega)).trans this.1⟩
theorem stp_is {c : Cl} {n m : Int} (hn : Day n) (h : 0 ≤ stp c n m) : (0 < m → Up c n m (stp c n m)) ∧ (m < 0 → Dn c n (-m) (stp c n m)) ∧ (m = 0 → stp c n m = n) := by
  refine ⟨fun q => ?_, fun q => ?_, fun q => by rw [q]; exact stp_0⟩
  · rw [stp_p q] at h ⊢
    exact stU_ok h
  · rw [stp_n q] at h ⊢
    rcases stD_cases c n (-m) with z | z
    · omega
    · exact z.2
theorem back {c : Cl} {n m : Int} (h : sE c n m = 0) :
    chk c = 0 ∧ Day n ∧ Day (sV c n m) ∧ (m = 0 → sV c n m = n) ∧ (m ≠ 0 → op c (sV c n m) = 1) ∧ (0 < m → coE c n (sV c n m) = 0 ∧ coV c n (sV c n m) = m) ∧ (op c n = 1 → sE c (sV c n m) (-m) = 0 ∧ sV c (sV c n m) (-m) = n) := by
  obtain ⟨h1, h2, h3, h4, h5⟩ := sE_ok h
  obtain ⟨u, d, z⟩ := stp_is h2 h5.1
  rw [h4]
  generalize stp c n m = k at *
  have hn := h2
  have hk := h5
  unfold Day at h2 h5
  refine ⟨h1, hn, hk, z, fun q => ?_, fun q => ?_, fun q => ?_⟩
  · rcases Int.lt_or_gt_of_ne q with q | q
    · exact (d q).2.2.1
    · exact (u q).2.2.1
  · obtain ⟨a, _, _, b⟩ := u q
    have e := coE_of h1 hn hk (by omega)
    exact ⟨e, (if_pos e).trans b⟩
  · by_cases m0 : m = 0
    · subst m0
      obtain rfl := z rfl
      have e0 : stp c k (-0) = k := stp_0
      have := sE_of (m := -0) h1 hn (by omega) (by rw [e0]; omega)
      rw [e0] at this
      exact this
    · by_cases mp : 0 < m
      · obtain ⟨a, _, b, e⟩ := u mp
        have f := cnt_first (c := c) (a := n - 1) (b := k - 1) (by omega)
        have g := cnt_last (c := c) (a := n) (b := k) a
        rw [show n - 1 + 1 = n by omega] at f
        have dn : Dn c k m n := ⟨by omega, a, q, by omega⟩
        have e0 : stp c k (-m) = n := by rw [stp_n (by omega), Int.neg_neg]; exact stD_is dn
        have := sE_of (m := -m) h1 hk (by omega) (by rw [e0]; omega)
        rw [e0] at this
        exact this
      · obtain ⟨a, b, e, f⟩ := d (by omega)
        have g := cnt_first (c := c) (a := k - 1) (b := n) (by omega)
        have i := cnt_last (c := c) (a := k - 1) (b := n) (by omega)
        rw [show k - 1 + 1 = k by omega] at g
        have up : Up c k (-m) n := ⟨b, by omega, q, by omega⟩
        have e0 : stp c k (-m) = n := by rw [stp_p (by omega)]; exact stU_is up
        have := sE_of (m := -m) h1 hk (by omega) (by rw [e0]; omega)
        rw [e0] at this
        exact this
theorem neE_ok {c : Cl} {n : Int} (h : neE c n = 0) : chk c = 0 ∧ Day n ∧ neV c n = stU c (n - 1) 1 ∧ Up c (n - 1) 1 (stU c (n - 1) 1) ∧ Day (stU c (n - 1) 1) := by
  unfold neE at h
  split at h
  · exact absurd h ‹_›
  · rename_i q
    obtain ⟨k, hd, hk⟩ := e1_ok (by omega : e1 c n = 0)
    obtain ⟨u, v⟩ := toE_ok h
    have up := stU_ok u
    exact ⟨hk, hd, (if_neg q).trans v, up, u, up.2.1⟩
theorem neE_of {c : Cl} {n : Int} (h : chk c = 0) (hn : Day n) (hs : 0 ≤ stU c (n - 1) 1) : neE c n = 0 ∧ neV c n = stU c (n - 1) 1 := by
  have e := e1_of h hn
  have := toV_pos hs
  exact ⟨(if_neg (by omega)).trans this.2, (if_neg (by omega)).trans this.1⟩
theorem isV_yes {c : Cl} {n : Int} (h : chk c = 0) (hn : Day n) : isV c n = decide (op c n = 1) := by
  unfold isV
  rw [decide_eq_decide]
  exact ⟨fun q => q.2, fun q => ⟨e1_of h hn, q⟩⟩
theorem next {c : Cl} {n : Int} (h : neE c n = 0) :
    chk c = 0 ∧ Day n ∧ Day (neV c n) ∧ n ≤ neV c n ∧ op c (neV c n) = 1 ∧ neE c (neV c n) = 0 ∧ neV c (neV c n) = neV c n ∧ (n < neV c n → coE c n (neV c n - 1) = 0 ∧ coV c n (neV c n - 1) = 0) ∧ ∀ l, n ≤ l → neE c l = 0 → neV c n ≤ neV c l := by
  obtain ⟨h1, h2, h3, h4, h5⟩ := neE_ok h
  rw [h3]
  generalize stU c (n - 1) 1 = k at *
  have hk := h5
  have hn := h2
  unfold Day at h2 h5
  obtain ⟨a1, a2, a3, a4⟩ := h4
  have nh := nx_here hk a3
  obtain ⟨b1, b2⟩ := neE_of h1 hk (by rw [nh]; omega)
  rw [nh] at b2
  have f := cnt_first (c := c) (a := n - 1) (b := k) a1
  rw [show n - 1 + 1 = n by omega] at f
  refine ⟨h1, hn, hk, by omega, a3, b1, b2, fun q => ?_, fun l hl hl2 => ?_⟩
  · have g := cnt_last (c := c) (a := n) (b := k) q
    have e := coE_of (c := c) (a := n) (b := k - 1) h1 hn ⟨by omega, by omega⟩ (by omega)
    have o := op_01 c n
    have bd := (cnt_bd c n (k - 1)).1
    exact ⟨e, (if_pos e).trans (by omega)⟩
  · obtain ⟨_, g2, g3, ⟨u1, u2, u3, u4⟩, _⟩ := neE_ok hl2
    rw [g3]
    generalize stU c (l - 1) 1 = y at *
    rcases Int.lt_or_le y k with z | z
    · have g := cnt_last (c := c) (a := n - 1) (b := k) a1
      have p := cnt_pos (c := c) (a := n - 1) (b := y) (by omega) u3
      have m := cnt_mono (c := c) (a := n - 1) (b := y) (d := k - 1) (by omega)
      omega
    · exact z
def less (c : Cl) (i : Nat) : Cl := ⟨c.we, c.hs.take i ++ c.hs.drop (i + 1)⟩
theorem parts_at {l : List Int} {i : Nat} (h : i < l.length) : l = l.take i ++ l.getD i default :: l.drop (i + 1) := by
  rw [getD_at h, ← List.drop_eq_getElem_cons h, List.take_append_drop]
theorem less_ok {c : Cl} {i : Nat} (h : Ok c) (hi : i < c.hs.length) : Ok (less c i) := by
  obtain ⟨h1, h2, h3, h4⟩ := h
  have sub : (less c i).hs.Sublist c.hs := by
    have e := parts_at hi
    unfold less
    dsimp only
    conv => rhs; rw [e]
    exact (List.Sublist.refl _).append (List.sublist_cons_self _ _)
  exact ⟨h1, Nat.le_trans sub.length_le h2, fun n hn => h3 n (sub.subset hn), h4.sublist sub⟩
end Ca
end Go.Proofs.YtpanlcnoopmchaaGreat

namespace Go.Proofs.YtpanlcnoopmchaaGreat.F
def fndV (id : Int) (l : List Fl) : Int := if checks l ≠ 0 then 0 else if idx id l 0 < 0 then 0 else idx id l 0
def fndE (id : Int) (l : List Fl) : Int := if checks l ≠ 0 then checks l else if idx id l 0 < 0 then 5 else 0
theorem fnd_1 {id : Int} {l : List Fl} (h : checks l ≠ 0) : fndV id l = 0 ∧ fndE id l = checks l := ⟨if_pos h, if_pos h⟩
theorem fnd_2 {id : Int} {l : List Fl} (h : checks l = 0) (k : idx id l 0 < 0) : fndV id l = 0 ∧ fndE id l = 5 := by
  unfold fndV fndE; rw [if_neg (by simpa using h), if_pos k, if_neg (by simpa using h), if_pos k]; exact ⟨rfl, rfl⟩
theorem fnd_3 {id : Int} {l : List Fl} (h : checks l = 0) (k : ¬ idx id l 0 < 0) : fndV id l = idx id l 0 ∧ fndE id l = 0 := by
  unfold fndV fndE; rw [if_neg (by simpa using h), if_neg k, if_neg (by simpa using h), if_neg k]; exact ⟨rfl, rfl⟩
end Go.Proofs.YtpanlcnoopmchaaGreat.F

namespace Go.Proofs.YtpanlcnoopmchaaGreat.F
theorem paid_ok {f : Fl} (h : less f 1 = 0) : Ok (addPd f (left f)) ∧ left (addPd f (left f)) = 0 ∧ 0 < left f := by
  obtain ⟨⟨a, b, ⟨⟨p1, p2⟩, ⟨p3, p4⟩, p5, p6⟩, d⟩, _, _, u⟩ := less_ok h
  unfold left at u ⊢
  refine ⟨⟨a, b, ⟨⟨p1, p2⟩, ⟨p3, p4⟩, ?_, ?_⟩, ?_⟩, ?_, ?_⟩ <;> (try simp only [addPd]) <;> omega
theorem deliver_ok {f : Fl} {u : Int} (h : less f u = 0) : Ok (addDe f u) ∧ left (addDe f u) = left f - u := by
  obtain ⟨⟨a, b, ⟨⟨p1, p2⟩, ⟨p3, p4⟩, p5, p6⟩, d⟩, _, _, u⟩ := less_ok h
  unfold left at u ⊢
  refine ⟨⟨a, b, ⟨⟨?_, ?_⟩, ⟨p3, p4⟩, p5, p6⟩, ?_⟩, ?_⟩ <;> (try simp only [addDe]) <;> omega
theorem buy_ok {f : Fl} {u : Int} (h : less f u = 0) : Ok (addBo f u) ∧ left (addBo f u) = left f - u := by
  obtain ⟨⟨a, b, ⟨⟨p1, p2⟩, ⟨p3, p4⟩, p5, p6⟩, d⟩, _, _, u⟩ := less_ok h
  unfold left at u ⊢
  refine ⟨⟨a, b, ⟨⟨p1, p2⟩, ⟨?_, ?_⟩, p5, p6⟩, ?_⟩, ?_⟩ <;> (try simp only [addBo]) <;> omega
theorem parts {f : Fl} {a b : Int} (h : less f a = 0) (hb : 1 ≤ b) (hb2 : b ≤ 1073741824) :
    (less (addDe f a) b = 0 ∧ less f (a + b) = 0 ∧ less (addBo f b) a = 0 ∧ less f b = 0) ∨ (less (addDe f a) b ≠ 0 ∧ less f (a + b) ≠ 0) := by
  obtain ⟨hok, a1, a2, a3⟩ := less_ok h
  obtain ⟨k1, k2⟩ := deliver_ok h
  have hbd := ok_bounds hok
  by_cases c : b ≤ left f - a
  · left
    have e4 : less f b = 0 := less_5 (chk_of hok) (by omega) (by omega) (by omega)
    obtain ⟨m1, m2⟩ := buy_ok e4
    refine ⟨less_5 (chk_of k1) (by omega) (by omega) (by omega), less_5 (chk_of hok) (by omega) (by omega) (by omega), less_5 (chk_of m1) (by omega) (by omega) (by omega), e4⟩
  · right
    refine ⟨fun q => ?_, fun q => ?_⟩
    · obtain ⟨_, _, _, q4⟩ := less_ok q; omega
    · obtain ⟨_, _, _, q4⟩ := less_ok q; omega
end Go.Proofs.YtpanlcnoopmchaaGreat.F

namespace Go.Proofs.YtpanlcnoopmchaaGreat
namespace Ca
theorem stp_up {c : Cl} {a m : Int} (ha : Day a) (hm : 0 ≤ m) (h : 0 ≤ stp c a m) : a ≤ stp c a m ∧ Day (stp c a m) ∧ cnt c a (stp c a m) = m := by
  obtain ⟨u, _, z⟩ := stp_is ha h
  by_cases m0 : m = 0
  · subst m0
    rw [stp_0]; exact ⟨Int.le_refl _, ha, cnt_none (Int.le_refl _)⟩
  · obtain ⟨h1, h2, h3, h4⟩ := u (by omega)
    exact ⟨by omega, ⟨h, h2⟩, h4⟩
end Ca
namespace Ag
open Ca (Day stp)
def Wi (t : Tm) : Prop := (0 ≤ t.ex ∧ t.ex ≤ 100) ∧ (0 ≤ t.bu ∧ t.bu ≤ 100) ∧ (0 ≤ t.de ∧ t.de ≤ 100) ∧ (0 ≤ t.ra ∧ t.ra ≤ 1000000)
instance (t : Tm) : Decidable (Wi t) := by unfold Wi; exact inferInstance
def tchk (t : Tm) : Int := if Wi t then 0 else 3
theorem tchk_ok {t : Tm} (h : tchk t = 0) : Wi t := by
  unfold tchk at h
  split at h
  · assumption
  · omega
def ck (c : Cl) (t : Tm) : Int := if Ca.chk c ≠ 0 then Ca.chk c else tchk t
theorem ck_ok {c : Cl} {t : Tm} (h : ck c t = 0) : Ca.chk c = 0 ∧ Wi t := by
  unfold ck at h
  split at h
  · exact absurd h ‹_›
  · exact ⟨by omega, tchk_ok h⟩
theorem ck_1 {c : Cl} {t : Tm} (h : ¬ Ca.chk c = 0) : ck c t = Ca.chk c := if_pos h
theorem ck_2 {c : Cl} {t : Tm} (h : Ca.chk c = 0) : ck c t = tchk t := if_neg (by omega)
noncomputable def d1 (c : Cl) (t : Tm) (day : Int) : Int := stp c day t.ex
noncomputable def d2 (c : Cl) (t : Tm) (day : Int) : Int := stp c (d1 c t day) t.bu
noncomputable def d3 (c : Cl) (t : Tm) (day : Int) : Int := stp c (d2 c t day) t.de
def There (c : Cl) (t : Tm) (day : Int) : Prop := 0 ≤ d1 c t day ∧ 0 ≤ d2 c t day ∧ 0 ≤ d3 c t day
noncomputable instance (c : Cl) (t : Tm) (day : Int) : Decidable (There c t day) := by unfold There; exact inferInstance
theorem days {c : Cl} {t : Tm} {day : Int} (ht : Wi t) (hd : Day day) (h : There c t day) : (day ≤ d1 c t day ∧ Day (d1 c t day) ∧ Ca.cnt c day (d1 c t day) = t.ex) ∧ (d1 c t day ≤ d2 c t day ∧ Day (d2 c t day) ∧ Ca.cnt c (d1 c t day) (d2 c t day) = t.bu) ∧ (d2 c t day ≤ d3 c t day ∧ Day (d3 c t day) ∧ Ca.cnt c (d2 c t day) (d3 c t day) = t.de) := by
  obtain ⟨h1, h2, h3⟩ := h
  have a := Ca.stp_up hd ht.1.1 h1
  have b := Ca.stp_up a.2.1 ht.2.1.1 h2
  have d := Ca.stp_up b.2.1 ht.2.2.1.1 h3
  exact ⟨a, b, d⟩
noncomputable def sq (c : Cl) (d : Int) : List Int → List Int
  | [] => []
  | n :: r => stp c d n :: sq c (stp c d n) r
theorem sq_len (c : Cl) : ∀ (l : List Int) (d : Int), (sq c d l).length = l.length
  | [], _ => rfl
  | n :: r, d => by simp [sq, sq_len c r]
theorem sq_at (c : Cl) : ∀ (l : List Int) (d : Int) (k : Nat), k < l.length → (sq c d l).getD k default = stp c ((d :: sq c d l).getD k default) (l.getD k default)
  | [], _, _, h => by simp at h
  | n :: r, d, 0, _ => by simp [sq]
  | n :: r, d, k + 1, h => by
    have := sq_at c r (stp c d n) k (by simpa using h)
    simp only [sq, List.getD_cons_succ]
    exact this
def okS (c : Cl) (d : Int) (l : List Int) : Prop := ∀ x ∈ sq c d l, 0 ≤ x
noncomputable instance (c : Cl) (d : Int) (l : List Int) : Decidable (okS c d l) := by unfold okS; exact inferInstance
theorem sq_day {c : Cl} {l : List Int} {d : Int} (hd : Day d) : ∀ k, k ≤ l.length → (∀ j, j < k → 0 ≤ (sq c d l).getD j default) → Day ((d :: sq c d l).getD k default)
  | 0, _, _ => by simpa using hd
  | k + 1, hk, h => by
    have ih := sq_day hd k (by omega) (fun j hj => h j (by omega))
    have e := sq_at c l d k (by omega)
    have p := h k (by omega)
    rw [List.getD_cons_succ]
    rw [e] at p ⊢
    rcases Ca.stp_cases (c := c) (m := l.getD k default) ih with q | q
    · omega
    · exact q
theorem sq3 (c : Cl) (t : Tm) (day : Int) : sq c day [t.ex, t.bu, t.de] = [d1 c t day, d2 c t day, d3 c t day] := rfl
theorem sq4 (c : Cl) (t : Tm) (day : Int) : sq c day [0, t.ex, t.bu, t.de] = [day, d1 c t day, d2 c t day, d3 c t day] := by
  show stp c day 0 :: sq c (stp c day 0) [t.ex, t.bu, t.de] = _
  rw [Ca.stp_0, sq3]
theorem ok4 {c : Cl} {t : Tm} {day : Int} (hd : Day day) : okS c day [0, t.ex, t.bu, t.de] ↔ There c t day := by
  unfold okS There; rw [sq4]; simp; intro _ _ _; exact hd.1
noncomputable def dE (c : Cl) (t : Tm) (day : Int) : Int := if ck c t ≠ 0 then ck c t else if D.chk day ≠ 0 then D.chk day else if There c t day then 0 else 8
noncomputable def rA (c : Cl) (t : Tm) (day : Int) : Int := if There c t day then d1 c t day else -1
noncomputable def rB (c : Cl) (t : Tm) (day : Int) : Int := if There c t day then d2 c t day else -1
noncomputable def rD (c : Cl) (t : Tm) (day : Int) : Int := if There c t day then d3 c t day else -1
theorem r_yes {c : Cl} {t : Tm} {day : Int} (h : There c t day) : rA c t day = d1 c t day ∧ rB c t day = d2 c t day ∧ rD c t day = d3 c t day := ⟨if_pos h, if_pos h, if_pos h⟩
theorem r_no {c : Cl} {t : Tm} {day : Int} (h : ¬ There c t day) : rA c t day = -1 ∧ rB c t day = -1 ∧ rD c t day = -1 := ⟨if_neg h, if_neg h, if_neg h⟩
theorem d_day {c : Cl} {t : Tm} {day : Int} (hd : Day day) : (0 ≤ d1 c t day → Day (d1 c t day)) ∧ (0 ≤ d1 c t day → 0 ≤ d2 c t day → Day (d2 c t day)) := by
  have a : 0 ≤ d1 c t day → Day (d1 c t day) := fun h => by
    rcases Ca.stp_cases (c := c) (m := t.ex) hd with q | q
    · unfold d1 at h; omega
    · exact q
  refine ⟨a, fun h k => ?_⟩
  rcases Ca.stp_cases (c := c) (m := t.bu) (a h) with q | q
  · unfold d2 at k; omega
  · exact q
def s0 (c : Cl) (t : Tm) (f : Fl) (n : Int) : Int := if ck c t ≠ 0 then ck c t else if F.chk f ≠ 0 then F.chk f else D.chk n
theorem s0_1 {c : Cl} {t : Tm} {f : Fl} {n : Int} (h : ¬ ck c t = 0) : s0 c t f n = ck c t := if_pos h
theorem s0_2 {c : Cl} {t : Tm} {f : Fl} {n : Int} (h : ck c t = 0) (k : ¬ F.chk f = 0) : s0 c t f n = F.chk f := (if_neg (by omega)).trans (if_pos k)
theorem s0_3 {c : Cl} {t : Tm} {f : Fl} {n : Int} (h : ck c t = 0) (k : F.chk f = 0) : s0 c t f n = D.chk n := (if_neg (by omega)).trans (if_neg (by omega))
theorem f_day {f : Fl} (h : F.chk f = 0) : Day f.day := (F.chk_ok h).1.2.2.2.2.2.1
theorem s0_ok {c : Cl} {t : Tm} {f : Fl} {n : Int} (h : s0 c t f n = 0) : ck c t = 0 ∧ F.chk f = 0 ∧ Day n := by
  unfold s0 at h
  split at h
  · exact absurd h ‹_›
  · split at h
    · exact absurd h ‹_›
    · rcases Ca.dchk n with q | q
      · exact ⟨by omega, by omega, q.2⟩
      · omega
noncomputable def sE (c : Cl) (t : Tm) (f : Fl) (n : Int) : Int := if s0 c t f n ≠ 0 then s0 c t f n else if There c t f.day then 0 else 8
theorem sE_1 {c : Cl} {t : Tm} {f : Fl} {n : Int} (h : ¬ s0 c t f n = 0) : sE c t f n = s0 c t f n := if_pos h
theorem sE_2 {c : Cl} {t : Tm} {f : Fl} {n : Int} (h : s0 c t f n = 0) (k : ¬ There c t f.day) : sE c t f n = 8 := (if_neg (by omega)).trans (if_neg k)
theorem sE_3 {c : Cl} {t : Tm} {f : Fl} {n : Int} (h : s0 c t f n = 0) (k : There c t f.day) : sE c t f n = 0 := (if_neg (by omega)).trans (if_pos k)
theorem sE_ok {c : Cl} {t : Tm} {f : Fl} {n : Int} (h : sE c t f n = 0) : Ca.chk c = 0 ∧ Wi t ∧ F.chk f = 0 ∧ Day n ∧ There c t f.day := by
  unfold sE at h
  split at h
  · exact absurd h ‹_›
  · split at h
    · obtain ⟨a, b, d⟩ := s0_ok (by omega : s0 c t f n = 0)
      obtain ⟨x, y⟩ := ck_ok a
      exact ⟨x, y, b, d, ‹_›⟩
    · omega
theorem sE_of {c : Cl} {t : Tm} {f : Fl} {n : Int} (h1 : Ca.chk c = 0) (h2 : Wi t) (h3 : F.chk f = 0) (h4 : Day n) (h5 : There c t f.day) : sE c t f n = 0 := by
  have a : ck c t = 0 := (ck_2 h1).trans (if_pos h2)
  exact sE_3 ((s0_3 a h3).trans (D.chk_yes h4.1 h4.2)) h5
def one (p : Prop) [Decidable p] : Int := if p then 1 else 0
noncomputable def stg (c : Cl) (t : Tm) (f : Fl) (n : Int) : Int := if F.left f = 0 then 5 else one (f.day < n) + one (d1 c t f.day < n) + one (d2 c t f.day < n) + one (d3 c t f.day < n)
def cn (n : Int) : List Int → Int
  | [] => 0
  | x :: r => one (x < n) + cn n r
theorem cn_snoc (n x : Int) : ∀ l : List Int, cn n (l ++ [x]) = cn n l + one (x < n)
  | [] => by simp [cn]
  | y :: r => by rw [List.cons_append]; simp only [cn]; rw [cn_snoc n x r]; omega
theorem cn_bd (n : Int) : ∀ l : List Int, 0 ≤ cn n l ∧ cn n l ≤ l.length
  | [] => by simp [cn]
  | y :: r => by have := cn_bd n r; simp only [cn, List.length_cons]; unfold one; split <;> omega
theorem stg_cn {c : Cl} {t : Tm} {f : Fl} {n : Int} (h : ¬ F.left f = 0) : stg c t f n = cn n [f.day, d1 c t f.day, d2 c t f.day, d3 c t f.day] := by
  unfold stg
  rw [if_neg h]
  simp only [cn]; omega
noncomputable def sV (c : Cl) (t : Tm) (f : Fl) (n : Int) : Int := if sE c t f n = 0 then stg c t f n else 0
noncomputable def lV (c : Cl) (t : Tm) (f : Fl) (n : Int) : Int := if sE c t f n = 0 ∧ n < d3 c t f.day then Ca.cnt c n (d3 c t f.day) else 0
theorem sV_no {c : Cl} {t : Tm} {f : Fl} {n : Int} (h : ¬ sE c t f n = 0) : sV c t f n = 0 ∧ lV c t f n = 0 := ⟨if_neg h, if_neg (fun q => h q.1)⟩
theorem sV_yes {c : Cl} {t : Tm} {f : Fl} {n : Int} (h : sE c t f n = 0) : sV c t f n = stg c t f n := if_pos h
theorem stg_is {c : Cl} {t : Tm} {f : Fl} {n : Int} (h : sE c t f n = 0) : (F.left f = 0 → stg c t f n = 5) ∧ (¬ F.left f = 0 →
    (n ≤ f.day → stg c t f n = 0) ∧ (f.day < n → n ≤ d1 c t f.day → stg c t f n = 1) ∧ (d1 c t f.day < n → n ≤ d2 c t f.day → stg c t f n = 2) ∧ (d2 c t f.day < n → n ≤ d3 c t f.day → stg c t f n = 3) ∧ (d3 c t f.day < n → stg c t f n = 4)) := by
  obtain ⟨_, hw, hf, _, hth⟩ := sE_ok h
  obtain ⟨a, b, d⟩ := days hw (f_day hf) hth
  refine ⟨fun q => if_pos q, fun q => ?_⟩
  have e : stg c t f n = one (f.day < n) + one (d1 c t f.day < n) + one (d2 c t f.day < n) + one (d3 c t f.day < n) := if_neg q
  rw [e]
  unfold one
  refine ⟨fun q => ?_, fun q r => ?_, fun q r => ?_, fun q r => ?_, fun q => ?_⟩ <;> (repeat' split) <;> omega
end Ag
end Go.Proofs.YtpanlcnoopmchaaGreat

namespace Go.Proofs.YtpanlcnoopmchaaGreat
namespace Ca
def W : Cl := ⟨96, [739936]⟩
theorem w0 : chk W = 0 := by decide
theorem w1 : isV W 739936 = false ∧ e1 W 739936 = 0 := by decide
theorem w2 : neV W 739936 = 739937 ∧ neE W 739936 = 0 := by
  have s : stU W (739936 - 1) 1 = 739937 := stU_is (by unfold Up; decide)
  obtain ⟨a, b⟩ := neE_of (c := W) (n := 739936) w0 (by decide) (by rw [s]; decide)
  exact ⟨b.trans s, a⟩
theorem w3 : sV W 739935 4 = 739942 ∧ sE W 739935 4 = 0 := by
  have s : stp W 739935 4 = 739942 := (stp_p (by decide)).trans (stU_is (by unfold Up; decide))
  obtain ⟨a, b⟩ := sE_of (c := W) (n := 739935) (m := 4) w0 (by decide) (by decide) (by rw [s]; decide)
  exact ⟨b.trans s, a⟩
theorem w4 : sV W 739937 (-2) = 739932 ∧ sE W 739937 (-2) = 0 := by
  have s : stp W 739937 (-2) = 739932 := (stp_n (by decide)).trans (stD_is (by unfold Dn; decide))
  obtain ⟨a, b⟩ := sE_of (c := W) (n := 739937) (m := -2) w0 (by decide) (by decide) (by rw [s]; decide)
  exact ⟨b.trans s, a⟩
theorem w5 : coV W 739935 739942 = 4 ∧ coE W 739935 739942 = 0 := by decide
theorem w8 : chk ⟨0, [2, 1]⟩ = 4 := by decide
end Ca
end Go.Proofs.YtpanlcnoopmchaaGreat

namespace Go.Proofs.YtpanlcnoopmchaaGreat
open Go Go.RowKit V
theorem v_fwithin (n a b : Int) : V.Fn Tryz.prog 123 [] [.one (.val (.int .i64 n)), .one (.val (.int .i64 a)), .one (.val (.int .i64 b))] (.bool (decide (a ≤ n ∧ n ≤ b))) := by
  refine V.Fn.mk_ V.Tok V.mixed Tryz.func123 rfl Tryz.ntmps123 (by kernel_rfl) rfl rfl ?_
  repeat' ((conv => whnf); first | refine V.NCond.mk ?_ | refine V.NPick.l ?_ | refine V.NIf.not_ ?_ | refine V.NIf.dec_ ?_ | refine V.a4 ?_ | refine V.a5 ?_ | refine V.NIf.mk (fun _ => ?_) (fun _ => ?_) | refine V.a7 ?_ | refine V.a8 ?_ | refine V.a9 ?_ | refine V.NBoth.mk ?_ ?_ | refine V.b1 ?_ | refine V.b2 ?_ | refine V.NTF.dec ?_ | refine V.b3 ?_ | refine V.b4 ?_ | (refine V.NDraw.any (by kernel_rfl) ?_) | fail)
  · exact ⟨_, rfl, by simp_all⟩
  · exact congrArg Value.bool (by simp_all; omega)
theorem v_dcheck (n : Int) : V.Fn Tryz.prog 61 [] [.one (.val (.int .i64 n))] (.int .i64 (D.chk n)) := by
  refine V.Fn.mk_ V.Tok V.mixed Tryz.func61 rfl Tryz.ntmps61 (by kernel_rfl) rfl rfl ?_
  repeat' ((conv => whnf); first | refine V.NCond.mk ?_ | refine V.NPick.l ?_ | refine V.NIf.not_ ?_ | refine V.NIf.dec_ ?_ | refine V.a4 ?_ | refine V.a5 ?_ | refine V.NIf.mk (fun _ => ?_) (fun _ => ?_) | refine V.a7 ?_ | refine V.a8 ?_ | refine V.a9 ?_ | refine V.NBoth.mk ?_ ?_ | refine V.b1 ?_ | refine V.b2 ?_ | refine V.NTF.dec ?_ | refine V.b3 ?_ | refine V.b4 ?_ | (refine V.NDraw.any (by kernel_rfl) ?_) | fail)
  all_goals ((conv => whnf); refine congrArg _ ?_; unfold D.chk; (repeat' split) <;> first | rfl | omega | (exfalso; omega) | (simp_all; done) | (simp_all; omega))
theorem v_known (f : Fl) : V.Fn Tryz.prog 122 [] [.agg [.val (.int .i64 f.id), .val (.int .i64 f.fr), .val (.int .i64 f.to), .val (.int .i64 f.cl), .val (.int .i64 f.pa), .val (.int .i64 f.day), .val (.int .i64 f.un), .val (.int .i64 f.de), .val (.int .i64 f.bo), .val (.int .i64 f.pd)]] (.bool (decide (F.Kn f))) := by
  have k : D.chk f.day = 0 ↔ (0 ≤ f.day ∧ f.day ≤ 3652058) := by unfold D.chk; split <;> omega
  refine V.Fn.mk_ V.Tok V.mixed Tryz.func122 rfl Tryz.ntmps122 (by kernel_rfl) rfl rfl ?_
  repeat' ((conv => whnf); first | refine V.NCond.mk ?_ | refine V.NPick.l ?_ | refine V.NIf.not_ ?_ | refine V.NIf.dec_ ?_ | refine V.a4 ?_ | refine V.a5 ?_ | refine V.NIf.mk (fun _ => ?_) (fun _ => ?_) | refine V.a7 ?_ | refine V.a8 ?_ | refine V.a9 ?_ | refine V.NBoth.mk ?_ ?_ | refine V.b1 ?_ | refine V.b2 ?_ | refine V.NTF.dec ?_ | refine V.b3 ?_ | refine V.b4 ?_ | (first | refine V.Fn.k0 (v_fwithin _ _ _) rfl ?_ | refine V.Fn.q0 (v_fwithin _ _ _) rfl ?_ | refine V.Fn.a0 (v_fwithin _ _ _) rfl ?_) | (first | refine V.Fn.k0 (v_dcheck _) rfl ?_ | refine V.Fn.q0 (v_dcheck _) rfl ?_ | refine V.Fn.a0 (v_dcheck _) rfl ?_) | (refine V.NDraw.any (by kernel_rfl) ?_) | fail)
  · exact congrArg Value.bool (decide_eq_decide.2 (by unfold F.Kn; omega))
  all_goals exact congrArg Value.bool (decide_eq_false (by unfold F.Kn; omega)).symm
theorem v_fcheck (f : Fl) : V.Fn Tryz.prog 76 [] [.agg [.val (.int .i64 f.id), .val (.int .i64 f.fr), .val (.int .i64 f.to), .val (.int .i64 f.cl), .val (.int .i64 f.pa), .val (.int .i64 f.day), .val (.int .i64 f.un), .val (.int .i64 f.de), .val (.int .i64 f.bo), .val (.int .i64 f.pd)]] (.int .i64 (F.chk f)) := by
  have kun : F.Kn f → f.un ≤ 1073741824 := fun h => h.2.2.2.2.2.2.2
  refine V.Fn.mk_ V.Tok V.mixed Tryz.func76 rfl Tryz.ntmps76 (by kernel_rfl) rfl rfl ?_
  repeat' ((conv => whnf); first | refine V.NCond.mk ?_ | refine V.NPick.l ?_ | refine V.NIf.not_ ?_ | refine V.NIf.dec_ ?_ | refine V.a4 ?_ | refine V.a5 ?_ | refine V.NIf.mk (fun _ => ?_) (fun _ => ?_) | refine V.a7 ?_ | refine V.a8 ?_ | refine V.a9 ?_ | refine V.NBoth.mk ?_ ?_ | refine V.b1 ?_ | refine V.b2 ?_ | refine V.NTF.dec ?_ | refine V.b3 ?_ | refine V.b4 ?_ | (first | refine V.Fn.k0 (v_fwithin _ _ _) rfl ?_ | refine V.Fn.q0 (v_fwithin _ _ _) rfl ?_ | refine V.Fn.a0 (v_fwithin _ _ _) rfl ?_) | (first | refine V.Fn.k0 (v_known _) rfl ?_ | refine V.Fn.q0 (v_known _) rfl ?_ | refine V.Fn.a0 (v_known _) rfl ?_) | (refine V.NWrap.ok (by have := kun (by assumption); omega) (by have := kun (by assumption); omega) ?_) | (refine V.NDraw.any (by kernel_rfl) ?_) | fail)
  all_goals ((conv => whnf); refine congrArg _ ?_; unfold F.chk F.Pt; (repeat' split) <;> first | rfl | omega | (exfalso; omega) | (simp_all; done) | (simp_all; omega))
theorem v_fleft (f : Fl) (h : F.Ok f) : V.Fn Tryz.prog 71 [] [.agg [.val (.int .i64 f.id), .val (.int .i64 f.fr), .val (.int .i64 f.to), .val (.int .i64 f.cl), .val (.int .i64 f.pa), .val (.int .i64 f.day), .val (.int .i64 f.un), .val (.int .i64 f.de), .val (.int .i64 f.bo), .val (.int .i64 f.pd)]] (.int .i64 (F.left f)) := by
  have hb := F.ok_bounds h
  refine V.Fn.mk_ V.Tok V.mixed Tryz.func71 rfl Tryz.ntmps71 (by kernel_rfl) rfl rfl ?_
  repeat' ((conv => whnf); first | refine V.NCond.mk ?_ | refine V.NPick.l ?_ | refine V.NIf.not_ ?_ | refine V.NIf.dec_ ?_ | refine V.a4 ?_ | refine V.a5 ?_ | refine V.NIf.mk (fun _ => ?_) (fun _ => ?_) | refine V.a7 ?_ | refine V.a8 ?_ | refine V.a9 ?_ | refine V.NBoth.mk ?_ ?_ | refine V.b1 ?_ | refine V.b2 ?_ | refine V.NTF.dec ?_ | refine V.b3 ?_ | refine V.b4 ?_ | (refine V.NDraw.any (by kernel_rfl) ?_) | fail)
  exact rfl
theorem v_less (f : Fl) (u : Int) : V.Fn Tryz.prog 121 [] [.agg [.val (.int .i64 f.id), .val (.int .i64 f.fr), .val (.int .i64 f.to), .val (.int .i64 f.cl), .val (.int .i64 f.pa), .val (.int .i64 f.day), .val (.int .i64 f.un), .val (.int .i64 f.de), .val (.int .i64 f.bo), .val (.int .i64 f.pd)], .one (.val (.int .i64 u))] (.int .i64 (F.less f u)) := by
  refine V.Fn.mk_ V.Tok V.mixed Tryz.func121 rfl Tryz.ntmps121 (by kernel_rfl) rfl rfl ?_
  repeat' ((conv => whnf); first | refine V.NCond.mk ?_ | refine V.NPick.l ?_ | refine V.NIf.not_ ?_ | refine V.NIf.dec_ ?_ | refine V.a4 ?_ | refine V.a5 ?_ | refine V.NIf.mk (fun _ => ?_) (fun _ => ?_) | refine V.a7 ?_ | refine V.a8 ?_ | refine V.a9 ?_ | refine V.NBoth.mk ?_ ?_ | refine V.b1 ?_ | refine V.b2 ?_ | refine V.NTF.dec ?_ | refine V.b3 ?_ | refine V.b4 ?_ | (first | refine V.Fn.k0 (v_fwithin _ _ _) rfl ?_ | refine V.Fn.q0 (v_fwithin _ _ _) rfl ?_ | refine V.Fn.a0 (v_fwithin _ _ _) rfl ?_) | (first | refine V.Fn.k0 (v_fcheck _) rfl ?_ | refine V.Fn.q0 (v_fcheck _) rfl ?_ | refine V.Fn.a0 (v_fcheck _) rfl ?_) | (first | refine V.Fn.k0 (v_fleft f (F.chk_ok (by omega))) rfl ?_ | refine V.Fn.q0 (v_fleft f (F.chk_ok (by omega))) rfl ?_ | refine V.Fn.a0 (v_fleft f (F.chk_ok (by omega))) rfl ?_) | (refine V.NDraw.any (by kernel_rfl) ?_) | fail)
  all_goals ((conv => whnf); refine congrArg _ ?_; unfold F.less; (repeat' split) <;> first | rfl | omega | (exfalso; omega) | (simp_all; done) | (simp_all; omega))
theorem v_deliver (f : Fl) (u : Int) : V.Fn Tryz.prog 66 [] [.agg [.val (.int .i64 f.id), .val (.int .i64 f.fr), .val (.int .i64 f.to), .val (.int .i64 f.cl), .val (.int .i64 f.pa), .val (.int .i64 f.day), .val (.int .i64 f.un), .val (.int .i64 f.de), .val (.int .i64 f.bo), .val (.int .i64 f.pd)], .one (.val (.int .i64 u))] (.tuple #[.agg #[.int .i64 (F.deliver f u).id, .int .i64 (F.deliver f u).fr, .int .i64 (F.deliver f u).to, .int .i64 (F.deliver f u).cl, .int .i64 (F.deliver f u).pa, .int .i64 (F.deliver f u).day, .int .i64 (F.deliver f u).un, .int .i64 (F.deliver f u).de, .int .i64 (F.deliver f u).bo, .int .i64 (F.deliver f u).pd], .int .i64 (F.less f u)]) := by
  have key : F.less f u = 0 → f.de + u ≤ 1073741824 * 2 ∧ 0 ≤ f.de + u := fun h => by have h1 := F.less_ok h; have := F.ok_bounds h1.1; omega
  refine V.Fn.mk_ V.Tok V.mixed Tryz.func66 rfl Tryz.ntmps66 (by kernel_rfl) rfl rfl ?_
  repeat' ((conv => whnf); first | refine V.NCond.mk ?_ | refine V.NPick.l ?_ | refine V.NIf.not_ ?_ | refine V.NIf.dec_ ?_ | refine V.a4 ?_ | refine V.a5 ?_ | refine V.NIf.mk (fun _ => ?_) (fun _ => ?_) | refine V.a7 ?_ | refine V.a8 ?_ | refine V.a9 ?_ | refine V.NBoth.mk ?_ ?_ | refine V.b1 ?_ | refine V.b2 ?_ | refine V.NTF.dec ?_ | refine V.b3 ?_ | refine V.b4 ?_ | (first | refine V.Fn.k0 (v_less _ _) rfl ?_ | refine V.Fn.q0 (v_less _ _) rfl ?_ | refine V.Fn.a0 (v_less _ _) rfl ?_) | (refine V.NDraw.any (by kernel_rfl) ?_) | fail)
  all_goals rename_i h
  · rw [F.deliver_yes h, h]; exact V.S_
  · rw [F.deliver_no h]; exact V.S_
theorem v_pay (f : Fl) : V.Fn Tryz.prog 75 [] [.agg [.val (.int .i64 f.id), .val (.int .i64 f.fr), .val (.int .i64 f.to), .val (.int .i64 f.cl), .val (.int .i64 f.pa), .val (.int .i64 f.day), .val (.int .i64 f.un), .val (.int .i64 f.de), .val (.int .i64 f.bo), .val (.int .i64 f.pd)]] (.tuple #[.agg #[.int .i64 (F.pay f).id, .int .i64 (F.pay f).fr, .int .i64 (F.pay f).to, .int .i64 (F.pay f).cl, .int .i64 (F.pay f).pa, .int .i64 (F.pay f).day, .int .i64 (F.pay f).un, .int .i64 (F.pay f).de, .int .i64 (F.pay f).bo, .int .i64 (F.pay f).pd], .int .i64 (F.paid f), .int .i64 (F.less f 1)]) := by
  have key : F.less f 1 = 0 → f.pd + F.left f ≤ 1073741824 * 2 ∧ 0 ≤ f.pd + F.left f := fun h => by have h1 := F.less_ok h; have := F.ok_bounds h1.1; omega
  refine V.Fn.mk_ V.Tok V.mixed Tryz.func75 rfl Tryz.ntmps75 (by kernel_rfl) rfl rfl ?_
  repeat' ((conv => whnf); first | refine V.NCond.mk ?_ | refine V.NPick.l ?_ | refine V.NIf.not_ ?_ | refine V.NIf.dec_ ?_ | refine V.a4 ?_ | refine V.a5 ?_ | refine V.NIf.mk (fun _ => ?_) (fun _ => ?_) | refine V.a7 ?_ | refine V.a8 ?_ | refine V.a9 ?_ | refine V.NBoth.mk ?_ ?_ | refine V.b1 ?_ | refine V.b2 ?_ | refine V.NTF.dec ?_ | refine V.b3 ?_ | refine V.b4 ?_ | (first | refine V.Fn.k0 (v_less _ _) rfl ?_ | refine V.Fn.q0 (v_less _ _) rfl ?_ | refine V.Fn.a0 (v_less _ _) rfl ?_) | (first | refine V.Fn.k0 (v_fleft f (F.less_ok (by assumption)).1) rfl ?_ | refine V.Fn.q0 (v_fleft f (F.less_ok (by assumption)).1) rfl ?_ | refine V.Fn.a0 (v_fleft f (F.less_ok (by assumption)).1) rfl ?_) | (refine V.NDraw.any (by kernel_rfl) ?_) | fail)
  all_goals rename_i h
  · rw [(F.pay_yes h).1, (F.pay_yes h).2, h]; exact V.S_
  · rw [(F.pay_no h).1, (F.pay_no h).2]; exact V.S_
end Go.Proofs.YtpanlcnoopmchaaGreat

namespace Go.Proofs.YtpanlcnoopmchaaGreat
open Go.RowKit Go.Maps
theorem fcheck_c (f : Fl) (w : World) : Calls Tryz.prog 76 #[.agg #[.int .i64 f.id, .int .i64 f.fr, .int .i64 f.to, .int .i64 f.cl, .int .i64 f.pa, .int .i64 f.day, .int .i64 f.un, .int .i64 f.de, .int .i64 f.bo, .int .i64 f.pd]] w fun e w' => e = .returned (.int .i64 (F.chk f)) ∧ Below w.heap.size w w' :=
  (v_fcheck f).calls (xs := [.agg #[.int .i64 f.id, .int .i64 f.fr, .int .i64 f.to, .int .i64 f.cl, .int .i64 f.pa, .int .i64 f.day, .int .i64 f.un, .int .i64 f.de, .int .i64 f.bo, .int .i64 f.pd]]) w
def FailsAt (w : World) (B : Nat) (A : Option Addr) (l : List Fl) : Prop := ∀ k (hk : k < l.length), ∃ b off, A = some ⟨b, off, none⟩ ∧ b < B ∧
  w.cell? ⟨b, off + k * 10, none⟩ = some (.int .i64 l[k].id) ∧ w.cell? ⟨b, off + k * 10 + 1, none⟩ = some (.int .i64 l[k].fr) ∧ w.cell? ⟨b, off + k * 10 + 2, none⟩ = some (.int .i64 l[k].to) ∧
  w.cell? ⟨b, off + k * 10 + 3, none⟩ = some (.int .i64 l[k].cl) ∧ w.cell? ⟨b, off + k * 10 + 4, none⟩ = some (.int .i64 l[k].pa) ∧ w.cell? ⟨b, off + k * 10 + 5, none⟩ = some (.int .i64 l[k].day) ∧
  w.cell? ⟨b, off + k * 10 + 6, none⟩ = some (.int .i64 l[k].un) ∧ w.cell? ⟨b, off + k * 10 + 7, none⟩ = some (.int .i64 l[k].de) ∧ w.cell? ⟨b, off + k * 10 + 8, none⟩ = some (.int .i64 l[k].bo) ∧
  w.cell? ⟨b, off + k * 10 + 9, none⟩ = some (.int .i64 l[k].pd)
theorem FailsAt.keep {w w' : World} {B : Nat} {A : Option Addr} {l : List Fl} (h : FailsAt w B A l) (hb : Below B w w') : FailsAt w' B A l := by
  intro k hk
  obtain ⟨b, off, e, hB, c0, c1, c2, c3, c4, c5, c6, c7, c8, c9⟩ := h k hk
  have q : ∀ o, w'.cell? ⟨b, o, none⟩ = w.cell? ⟨b, o, none⟩ := fun o => hb.cell (p := ⟨b, o, none⟩) hB
  exact ⟨b, off, e, hB, (q _).trans c0, (q _).trans c1, (q _).trans c2, (q _).trans c3, (q _).trans c4, (q _).trans c5, (q _).trans c6, (q _).trans c7, (q _).trans c8, (q _).trans c9⟩
theorem FailsAt.to {w w' : World} {A : Option Addr} {l : List Fl} (h : FailsAt w w.heap.size A l) (hb : Below w.heap.size w w') : FailsAt w' w'.heap.size A l := by
  intro k hk
  obtain ⟨b, off, e, hB, r⟩ := h.keep hb k hk
  exact ⟨b, off, e, Nat.lt_of_lt_of_le hB hb.size, r⟩
def idSet (ids : List Int) : DataW Unit := setOf (.agg []) (ids.map (Lit.int .i64))
theorem idSet_zero : idSet [] = .map [] := by simp [idSet, setOf]
theorem idSet_snoc (ids : List Int) (x : Int) : idSet (ids ++ [x]) = (idSet ids).put (.int .i64 x) (.agg []) := by
  unfold idSet; rw [List.map_append]; exact setOf_snoc _ _ _
theorem any_ids (x : Int) : ∀ l : List Int, l.any ((fun y : Lit => y.sameKey (.int .i64 x)) ∘ Lit.int .i64) = l.contains x
  | [] => rfl
  | a :: r => by
    rw [List.any_cons, List.contains_cons, any_ids x r]
    congr 1
    show decide (IntKind.i64 = IntKind.i64 ∧ a = x) = (x == a)
    by_cases e : a = x
    · subst e; simp
    · have e' : ¬ x = a := fun h => e h.symm
      simp [e, e']
theorem has_ids (ids : List Int) (x : Int) : Maps.has (idSet ids) (.int .i64 x) = ids.contains x := by
  unfold idSet
  rw [has_setOf _ _ _ (fun y hy => by obtain ⟨_, _, rfl⟩ := List.mem_map.1 hy; trivial), List.any_map]
  exact any_ids x _
theorem intLaw : Keyed Tryz.prog 3 := int_keyed Tryz.underlying3
theorem zeroUnit (w : World) : (zeroValue 145).run Tryz.prog w = .ok (.agg #[]) w := by kernel_rfl
theorem fchecks_any (A : Option Addr) (l : List Fl) (c : Nat) (w : World) (hn : l.length ≤ 9223372036854775807) (ha : FailsAt w w.heap.size A l) : Calls Tryz.prog 62 #[.slice A l.length c] w fun e w' => e = .returned (.int .i64 (F.checks l)) ∧ Below w.heap.size w w' := by
  by_cases hm : 60 < l.length
  · have E := hid (F.checks_many hm)
    go_enter Tryz.func62, Tryz.ntmps62
    go_wp2
    go_ret
    exact ⟨by rw [E.out]; rfl, Below.refl _ _⟩
  have E := hid (F.checks_few (l := l) (by omega))
  have hmm := @run_makeMap Tryz.prog
  clear hn
  have hm2 : (l.length : Int) ≤ 60 := by omega
  go_enter Tryz.func62, Tryz.ntmps62
  go_wp2
  go_loopw [15] (fun i wr => ∃ k : Nat, k ≤ l.length ∧ i = .int .i64 k ∧ F.checks l = F.ckFrom ((l.take k).map (·.id)) (l.drop k) ∧ wr.ownsMap Tryz.prog 3 unitElem w.heap.size k (idSet ((l.take k).map (·.id))) ∧ Below w.heap.size w wr ∧ w.heap.size + 1 ≤ wr.heap.size) (fun i _ => l.length - (intOf i).toNat)
  case atStart => exact ⟨0, by omega, rfl, E.out, (show _ by rw [List.take_zero]; exact idSet_zero ▸ World.ownsMap_made _ _ _ _), balloc (Below.refl _ _) _, by simp⟩
  case round =>
    obtain ⟨k, hk, rfl, he, hown, hbw, hsz⟩ := hrel
    generalize hS : (l.take k).map (·.id) = S at *
    have HS := hid hS
    have HE := hid he
    clear he hS
    by_cases hlt : k < l.length
    · obtain ⟨b, off, rfl, hB, c0, c1, c2, c3, c4, c5, c6, c7, c8, c9⟩ := ha.keep hbw k hlt
      by_cases hc : F.chk l[k] = 0
      · have H0 := hid hc
        have hb0 : (F.chk l[k] != 0) = false := by rw [bne_eq_false_iff_eq]; exact hc
        have hkn := (F.chk_ok hc).1.1
        have hkey : keyOf Tryz.prog 3 (.int .i64 l[k].id) = some (.int .i64 l[k].id) := keyOf_int_mk Tryz.underlying3 (i64wf (by omega))
        clear hc hkn
        by_cases hmem : l[k].id ∈ S
        · have hh : Maps.has (idSet S) (.int .i64 l[k].id) = true := by rw [has_ids]; exact List.contains_iff_mem.2 hmem
          have HM := hid hmem
          clear hmem
          go_wp2_with (first
            | (go_at_call 76; refine (fcheck_c l[k] _).mono ?_; rintro e w1 ⟨rfl, hb1⟩; have hbw1 := bthen (balloc hbw _) hb1; have hown1 := (hown.alloc _).kept (only_of_below hb1 none) (by simp); obtain ⟨hc1, hf1⟩ := bcell hb1; have hz1 := hb1.size; (try simp at hz1); have hy1 : wr.heap.size < w1.heap.size := (by omega); have hx1 : w.heap.size < w1.heap.size := (by omega))
            | (at_lookup; refine wpList_lookup_own_unit _ rfl _ _ 144 rfl 3 145 intLaw Tryz.underlying144 (zeroUnit _) w.heap.size k _ rfl hown1 _ _ rfl hkey ?_)
            | (at_mapUpdate; refine wpList_mapUpdate_own _ rfl _ _ _ 144 rfl 3 145 intLaw Tryz.underlying144 (unitElem (H := Unit)) w.heap.size k _ rfl (hown1.alloc _) (by unfold maxLen; omega) _ _ _ rfl rfl hkey _ [] unitElem_mk ?_; intro w2 hown2 hgrow2))
          go_ret
          exact ⟨ret_int (by rw [HE.out, F.ckStep_twice hlt _ H0.out HM.out]), balloc hbw1 _⟩
        · have hh : Maps.has (idSet S) (.int .i64 l[k].id) = false := by rw [has_ids]; simpa using hmem
          have HM := hid hmem
          clear hmem
          go_wp2_with (first
            | (go_at_call 76; refine (fcheck_c l[k] _).mono ?_; rintro e w1 ⟨rfl, hb1⟩; have hbw1 := bthen (balloc hbw _) hb1; have hown1 := (hown.alloc _).kept (only_of_below hb1 none) (by simp); obtain ⟨hc1, hf1⟩ := bcell hb1; have hz1 := hb1.size; (try simp at hz1); have hy1 : wr.heap.size < w1.heap.size := (by omega); have hx1 : w.heap.size < w1.heap.size := (by omega))
            | (at_lookup; refine wpList_lookup_own_unit _ rfl _ _ 144 rfl 3 145 intLaw Tryz.underlying144 (zeroUnit _) w.heap.size k _ rfl hown1 _ _ rfl hkey ?_)
            | (at_mapUpdate; refine wpList_mapUpdate_own _ rfl _ _ _ 144 rfl 3 145 intLaw Tryz.underlying144 (unitElem (H := Unit)) w.heap.size k _ rfl (hown1.alloc _) (by unfold maxLen; omega) _ _ _ rfl rfl hkey _ [] unitElem_mk ?_; intro w2 hown2 hgrow2))
          go_roundw
          case rel =>
            refine ⟨k + 1, by omega, by go_num, by rw [HE.out, ← HS.out]; exact F.ckStep_on hlt H0.out (by rw [HS.out]; exact HM.out), ?_, ?_, ?_⟩
            · rw [F.ids_snoc hlt, idSet_snoc, HS.out]
              exact hown2.mono (by omega)
            · exact (balloc hbw1 _).grown hgrow2 (by simp; omega) (fun j hj => by cases hj; exact Nat.le_refl _)
            · have := hgrow2.size; simp at this; omega
          case measure => simp [intOf]; omega
      · have H0 := hid (F.ckStep_err hlt S hc)
        have hb0 : (F.chk l[k] != 0) = true := by rw [bne_iff_ne]; exact hc
        clear hc
        go_wp2_with (go_at_call 76; refine (fcheck_c l[k] _).mono ?_; rintro e w1 ⟨rfl, hb1⟩; have hbw1 := bthen (balloc hbw _) hb1)
        go_ret
        exact ⟨ret_int (by rw [HE.out, H0.out]), hbw1⟩
    · obtain rfl : k = l.length := by omega
      go_wp2
      go_ret
      exact ⟨ret_int (by rw [HE.out, F.ckEnd]), hbw⟩
def encF (f : Fl) : List Value := [.int .i64 f.id, .int .i64 f.fr, .int .i64 f.to, .int .i64 f.cl, .int .i64 f.pa, .int .i64 f.day, .int .i64 f.un, .int .i64 f.de, .int .i64 f.bo, .int .i64 f.pd]
theorem failsAt_of {w : World} {v : Value} {l : List Fl} (h : V.ArrIs w v 10 l.length (V.ga encF l)) : ∃ A c, v = .slice A l.length c ∧ l.length ≤ 9223372036854775807 ∧ FailsAt w w.heap.size A l := by
  obtain ⟨A, c, rfl, hn, _, hh⟩ := h
  refine ⟨A, c, rfl, hn, fun k hk => ?_⟩
  obtain ⟨a, rfl, hlt, _, hc⟩ := hh k hk
  rw [V.ga_at hk] at hc
  obtain ⟨a0, e0, _, _, hc0⟩ := hh 0 (by omega)
  injection e0 with e0
  subst e0
  rw [V.ga_at (by omega)] at hc0
  have h00 := hc0 0 (.int .i64 (l[0]'(by omega)).id) rfl
  obtain ⟨b, off, spot⟩ := a
  have hspot : spot = none := by
    have : (Addr.add ⟨b, off, spot⟩ (0 * 10 + 0)) = ⟨b, off, spot⟩ := rfl
    rw [this] at h00
    simpa using World.cell?_spot h00
  subst hspot
  have at' : ∀ j u, (encF l[k])[j]? = some u → w.cell? ⟨b, off + k * 10 + j, none⟩ = some u := fun j u hu => by
    have := hc j u hu
    rwa [Go.WideShapes.add_plain, ← Nat.add_assoc] at this
  exact ⟨b, off, rfl, hlt, at' 0 _ rfl, at' 1 _ rfl, at' 2 _ rfl, at' 3 _ rfl, at' 4 _ rfl, at' 5 _ rfl, at' 6 _ rfl, at' 7 _ rfl, at' 8 _ rfl, at' 9 _ rfl⟩
open V in
theorem v_fchecks (l : List Fl) : V.Fn Tryz.prog 62 [.arr 10 l.length (ga encF l)] [.one (.ref 0)] (.int .i64 (F.checks l)) :=
  ⟨by kernel_rfl, fun w ρ xs hr ha => by
    obtain ⟨x, r, rfl, ⟨hx, _⟩, rfl⟩ := ha
    obtain ⟨v, hv, hA⟩ := hr 0 _ rfl
    rw [hv] at hx
    injection hx with hx
    subst hx
    obtain ⟨A, c, rfl, hn, hF⟩ := failsAt_of hA
    exact fchecks_any A l c w hn hF⟩
end Go.Proofs.YtpanlcnoopmchaaGreat

namespace Go.Proofs.YtpanlcnoopmchaaGreat
open Go Go.RowKit V
theorem v_findc (f : Fl) (id : Int) : V.Fn Tryz.prog 78 [.cel [.val (.int .i64 id)]] [.agg [.val (.int .i64 f.id), .val (.int .i64 f.fr), .val (.int .i64 f.to), .val (.int .i64 f.cl), .val (.int .i64 f.pa), .val (.int .i64 f.day), .val (.int .i64 f.un), .val (.int .i64 f.de), .val (.int .i64 f.bo), .val (.int .i64 f.pd)], .one (.ptr 0 0 0 0)] (.bool (decide (f.id = id))) := by
  refine V.Fn.mk_ V.Tok V.mixed Tryz.func78 rfl Tryz.ntmps78 (by kernel_rfl) rfl rfl ?_
  repeat' ((conv => whnf); first | refine V.NCond.mk ?_ | refine V.NPick.l ?_ | refine V.NIf.not_ ?_ | refine V.NIf.dec_ ?_ | refine V.a4 ?_ | refine V.a5 ?_ | refine V.NIf.mk (fun _ => ?_) (fun _ => ?_) | refine V.a7 ?_ | refine V.a8 ?_ | refine V.a9 ?_ | refine V.NBoth.mk ?_ ?_ | refine V.b1 ?_ | refine V.b2 ?_ | refine V.NTF.dec ?_ | refine V.b3 ?_ | refine V.b4 ?_ | (refine V.NDraw.any (by kernel_rfl) ?_) | fail)
  exact ⟨_, rfl, by simp⟩
theorem v_index (l : List Fl) (id : Int) (hn : l.length ≤ 60) : V.Fn Tryz.prog 77 [.arr 10 l.length (ga encF l), .cel [.val (.int .i64 id)]] [.one (.ref 0), .one (.clo 78 [1])] (.int .i64 (F.idx id l 0)) := by
  refine V.Fn.mk_ V.Tok V.mixed Tryz.func77 rfl Tryz.ntmps77 (by kernel_rfl) rfl rfl ?_
  (conv => whnf)
  refine V.NLoop.go (fun (k : Nat) => [(8, .one (.val (.int .i64 k)))]) (fun (k : Nat) => []) [0, 1, 6, 7] [0, 1] (fun (k : Nat) => l.length - k) (fun (k : Nat) => k ≤ l.length ∧ F.idx id l 0 = F.idx id (l.drop k) k) 0 ⟨by omega, rfl⟩ V.S_ V.S_ (fun _ => ⟨rfl, rfl⟩) ?_; (conv => whnf); refine ⟨⟨rfl, rfl⟩, ?_⟩
  rintro k ⟨hk, hJ⟩
  repeat' ((conv => whnf); first | refine V.NCond.mk ?_ | refine V.NPick.l ?_ | refine V.NIf.not_ ?_ | refine V.NIf.dec_ ?_ | refine V.a4 ?_ | refine V.a5 ?_ | refine V.NIf.mk (fun _ => ?_) (fun _ => ?_) | refine V.a7 ?_ | refine V.a8 ?_ | refine V.a9 ?_ | refine V.NBoth.mk ?_ ?_ | refine V.b1 ?_ | refine V.b2 ?_ | refine V.NTF.dec ?_ | refine V.b3 ?_ | refine V.b4 ?_ | (refine NIdx.mk ⟨_, rfl, by omega, ?_⟩) | ((first | refine V.Fn.k (v_findc (l.getD k default) id) [1] rfl ?_ ?_ | refine V.Fn.q (v_findc (l.getD k default) id) [1] rfl ?_ ?_ | refine V.Fn.a (v_findc (l.getD k default) id) [1] rfl ?_ ?_); · exact V.D_) | (refine V.NDraw.any (by kernel_rfl) ?_) | fail)
  · refine congrArg (Value.int .i64) ?_
    rw [hJ, F.idxStep (by omega) id, if_pos (by rw [← getD_at]; assumption)]
  · (conv => whnf)
    refine V.NBack.at_ (k + 1) [] ⟨by omega, ?_⟩ (by omega) V.S_ rfl V.S_ V.S_ V.S_
    rw [hJ, F.idxStep (by omega) id, if_neg (by rw [← getD_at]; assumption)]
  · obtain rfl : k = l.length := by omega
    exact congrArg (Value.int .i64) (by rw [hJ, F.idxEnd])
theorem v_ffind (l : List Fl) (id : Int) : V.Fn Tryz.prog 29 [.arr 10 l.length (ga encF l)] [.one (.ref 0), .one (.val (.int .i64 id))] (.tuple #[.int .i64 (F.fndV id l), .int .i64 (F.fndE id l)]) := by
  have h60 : F.checks l = 0 → l.length ≤ 60 := fun h => F.checks_len (by rw [h]; decide)
  refine V.Fn.mk_ V.Tok V.mixed Tryz.func29 rfl Tryz.ntmps29 (by kernel_rfl) rfl rfl ?_
  repeat' ((conv => whnf); first | refine V.NCond.mk ?_ | refine V.NPick.l ?_ | refine V.NIf.not_ ?_ | refine V.NIf.dec_ ?_ | refine V.a4 ?_ | refine V.a5 ?_ | refine V.NIf.mk (fun _ => ?_) (fun _ => ?_) | refine V.a7 ?_ | refine V.a8 ?_ | refine V.a9 ?_ | refine V.NBoth.mk ?_ ?_ | refine V.b1 ?_ | refine V.b2 ?_ | refine V.NTF.dec ?_ | refine V.b3 ?_ | refine V.b4 ?_ | ((first | refine V.Fn.k (v_fchecks l) [0] rfl ?_ ?_ | refine V.Fn.q (v_fchecks l) [0] rfl ?_ ?_ | refine V.Fn.a (v_fchecks l) [0] rfl ?_ ?_); · exact V.D_) | ((first | refine V.Fn.k (v_index l id (h60 (by assumption))) [0, 1] rfl ?_ ?_ | refine V.Fn.q (v_index l id (h60 (by assumption))) [0, 1] rfl ?_ ?_ | refine V.Fn.a (v_index l id (h60 (by assumption))) [0, 1] rfl ?_ ?_); · exact V.D_) | (refine V.NDraw.any (by kernel_rfl) ?_) | fail)
  · rename_i h k
    rw [(F.fnd_2 h k).1, (F.fnd_2 h k).2]; exact V.S_
  · rename_i h k
    rw [(F.fnd_3 h k).1, (F.fnd_3 h k).2]; exact V.S_
  · rename_i h
    rw [(F.fnd_1 h).1, (F.fnd_1 h).2]; exact V.S_
theorem v_rfopen (f : Fl) (h : F.Kn f ∧ F.Pt f) : V.Fn Tryz.prog 27 [] [.agg [.val (.int .i64 f.id), .val (.int .i64 f.fr), .val (.int .i64 f.to), .val (.int .i64 f.cl), .val (.int .i64 f.pa), .val (.int .i64 f.day), .val (.int .i64 f.un), .val (.int .i64 f.de), .val (.int .i64 f.bo), .val (.int .i64 f.pd)]] (.int .i64 (F.left f)) := by
  obtain ⟨⟨_, _, _, _, _, _, k1, k2⟩, ⟨p1, p2⟩, ⟨p3, p4⟩, p5, p6⟩ := h
  refine V.Fn.mk_ V.Tok V.mixed Tryz.func27 rfl Tryz.ntmps27 (by kernel_rfl) rfl rfl ?_
  repeat' ((conv => whnf); first | refine V.NCond.mk ?_ | refine V.NPick.l ?_ | refine V.NIf.not_ ?_ | refine V.NIf.dec_ ?_ | refine V.a4 ?_ | refine V.a5 ?_ | refine V.NIf.mk (fun _ => ?_) (fun _ => ?_) | refine V.a7 ?_ | refine V.a8 ?_ | refine V.a9 ?_ | refine V.NBoth.mk ?_ ?_ | refine V.b1 ?_ | refine V.b2 ?_ | refine V.NTF.dec ?_ | refine V.b3 ?_ | refine V.b4 ?_ | (refine V.NDraw.any (by kernel_rfl) ?_) | fail)
  exact congrArg (Value.int .i64) (by unfold F.left; omega)
theorem v_rfcheck (f : Fl) : V.Fn Tryz.prog 112 [] [.agg [.val (.int .i64 f.id), .val (.int .i64 f.fr), .val (.int .i64 f.to), .val (.int .i64 f.cl), .val (.int .i64 f.pa), .val (.int .i64 f.day), .val (.int .i64 f.un), .val (.int .i64 f.de), .val (.int .i64 f.bo), .val (.int .i64 f.pd)]] (.int .i64 (F.chk f)) := by
  refine V.Fn.mk_ V.Tok V.mixed Tryz.func112 rfl Tryz.ntmps112 (by kernel_rfl) rfl rfl ?_
  repeat' ((conv => whnf); first | refine V.NCond.mk ?_ | refine V.NPick.l ?_ | refine V.NIf.not_ ?_ | refine V.NIf.dec_ ?_ | refine V.a4 ?_ | refine V.a5 ?_ | refine V.NIf.mk (fun _ => ?_) (fun _ => ?_) | refine V.a7 ?_ | refine V.a8 ?_ | refine V.a9 ?_ | refine V.NBoth.mk ?_ ?_ | refine V.b1 ?_ | refine V.b2 ?_ | refine V.NTF.dec ?_ | refine V.b3 ?_ | refine V.b4 ?_ | (first | refine V.Fn.k0 (v_rbetween _ _ _) rfl ?_ | refine V.Fn.q0 (v_rbetween _ _ _) rfl ?_ | refine V.Fn.a0 (v_rbetween _ _ _) rfl ?_) | (first | refine V.Fn.k0 (v_rfopen f (by unfold F.Kn F.Pt; omega)) rfl ?_ | refine V.Fn.q0 (v_rfopen f (by unfold F.Kn F.Pt; omega)) rfl ?_ | refine V.Fn.a0 (v_rfopen f (by unfold F.Kn F.Pt; omega)) rfl ?_) | (refine V.NDraw.any (by kernel_rfl) ?_) | fail)
  all_goals (try simp only [F.left] at *)
  all_goals ((conv => whnf); refine congrArg _ ?_; unfold F.chk F.Pt F.Kn; (repeat' split) <;> first | rfl | omega | (exfalso; omega) | (simp_all; done) | (simp_all; omega))
theorem v_rfchecks (l : List Fl) : V.Fn Tryz.prog 64 [.arr 10 l.length (ga encF l)] [.one (.ref 0)] (.int .i64 (F.checks l)) := by
  refine V.Fn.mk_ V.Tok V.mixed Tryz.func64 rfl Tryz.ntmps64 (by kernel_rfl) rfl rfl ?_
  (conv => whnf)
  refine V.NCond.mk ?_
  refine NIf.mk (fun hm => ?_) (fun hm => ?_)
  · exact congrArg (Value.int .i64) (F.checks_many (by omega)).symm
  have hlen : l.length ≤ 60 := by omega
  (conv => whnf)
  refine V.NLoop.go (fun (k : Nat) => [(3, .one (.val (.int .i64 k)))]) (fun (k : Nat) => []) [0] [0] (fun (k : Nat) => l.length - k) (fun (k : Nat) => k ≤ l.length ∧ F.checks l = F.ckFrom ((l.take k).map (·.id)) (l.drop k)) 0 ⟨by omega, F.checks_few hlen⟩ V.S_ V.S_ (fun _ => ⟨rfl, rfl⟩) ?_; (conv => whnf); refine ⟨⟨rfl, rfl⟩, ?_⟩
  rintro k ⟨hk, hJ⟩
  repeat' ((conv => whnf); first | refine V.NCond.mk ?_ | refine V.NPick.l ?_ | refine V.NIf.not_ ?_ | refine V.NIf.dec_ ?_ | refine V.a4 ?_ | refine V.a5 ?_ | refine V.NIf.mk (fun _ => ?_) (fun _ => ?_) | refine V.a7 ?_ | refine V.a8 ?_ | refine V.a9 ?_ | refine V.NBoth.mk ?_ ?_ | refine V.b1 ?_ | refine V.b2 ?_ | refine V.NTF.dec ?_ | refine V.b3 ?_ | refine V.b4 ?_ | (refine NIdx.mk ⟨_, rfl, by omega, ?_⟩) | (first | refine V.Fn.k0 (v_rfcheck (l.getD k default)) rfl ?_ | refine V.Fn.q0 (v_rfcheck (l.getD k default)) rfl ?_ | refine V.Fn.a0 (v_rfcheck (l.getD k default)) rfl ?_) | (refine V.NDraw.any (by kernel_rfl) ?_) | fail)
  · rename_i h0
    have hlt : k < l.length := by omega
    rw [getD_at hlt] at h0
    (conv => whnf)
    refine V.NLoop.go (fun (j : Nat) => [(5, .one (.val (.int .i64 j)))]) (fun (j : Nat) => []) [0, 3] [0] (fun (j : Nat) => k - j) (fun (j : Nat) => j ≤ k ∧ l[k].id ∉ (l.take j).map (·.id)) 0 ⟨by omega, by simp⟩ V.S_ V.S_ (fun _ => ⟨rfl, rfl⟩) ?_; (conv => whnf); refine ⟨⟨rfl, rfl⟩, ?_⟩
    rintro j ⟨hj, hnot⟩
    repeat' ((conv => whnf); first | refine V.NCond.mk ?_ | refine V.NPick.l ?_ | refine V.NIf.not_ ?_ | refine V.NIf.dec_ ?_ | refine V.a4 ?_ | refine V.a5 ?_ | refine V.NIf.mk (fun _ => ?_) (fun _ => ?_) | refine V.a7 ?_ | refine V.a8 ?_ | refine V.a9 ?_ | refine V.NBoth.mk ?_ ?_ | refine V.b1 ?_ | refine V.b2 ?_ | refine V.NTF.dec ?_ | refine V.b3 ?_ | refine V.b4 ?_ | (refine NIdx.mk ⟨_, rfl, by omega, ?_⟩) | (refine NDraw.mk (by kernel_rfl) ?_) | (refine V.NDraw.any (by kernel_rfl) ?_) | fail)
    · rename_i hj2 he
      have hj3 : j < l.length := by omega
      rw [getD_at hj3, getD_at hlt] at he
      refine congrArg (Value.int .i64) ?_
      rw [hJ]; exact (F.ckStep_twice hlt _ h0 (F.mem_take hj3 (by omega) he)).symm
    · rename_i hj2 he
      have hj3 : j < l.length := by omega
      rw [getD_at hj3, getD_at hlt] at he
      (conv => whnf)
      refine V.NBack.at_ (j + 1) [] ⟨by omega, F.not_snoc hj3 hnot he⟩ (by omega) V.S_ rfl V.S_ V.S_ V.S_
    · obtain rfl : j = k := by omega
      (conv => whnf)
      refine V.NBack.at_ (j + 1) [] ⟨by omega, ?_⟩ (by omega) V.S_ rfl V.S_ V.S_ V.S_
      rw [hJ]; exact F.ckStep_on hlt h0 hnot
  · refine congrArg (Value.int .i64) ?_
    rw [hJ, F.ckStep_err (by omega) _ (by rw [← getD_at]; assumption), ← getD_at]
  · obtain rfl : k = l.length := by omega
    exact congrArg (Value.int .i64) (by rw [hJ, F.ckEnd])
end Go.Proofs.YtpanlcnoopmchaaGreat

namespace Go.Proofs.YtpanlcnoopmchaaGreat
open Go Go.RowKit V
namespace F
def s0 : Fl := ⟨7, 1, 2, 0, 3, 739935, 100, 0, 0, 0⟩
def l1 : List Fl := [s0]
end F
theorem v_some : V.Fn Tryz.prog 53 [] [] (.agg #[.int .i64 (F.s0).id, .int .i64 (F.s0).fr, .int .i64 (F.s0).to, .int .i64 (F.s0).cl, .int .i64 (F.s0).pa, .int .i64 (F.s0).day, .int .i64 (F.s0).un, .int .i64 (F.s0).de, .int .i64 (F.s0).bo, .int .i64 (F.s0).pd]) := by
  refine V.Fn.mk_ V.Tok V.mixed Tryz.func53 rfl Tryz.ntmps53 (by kernel_rfl) rfl rfl ?_
  repeat' ((conv => whnf); first | refine V.NCond.mk ?_ | refine V.NPick.l ?_ | refine V.NIf.not_ ?_ | refine V.NIf.dec_ ?_ | refine V.a4 ?_ | refine V.a5 ?_ | refine V.NIf.mk (fun _ => ?_) (fun _ => ?_) | refine V.a7 ?_ | refine V.a8 ?_ | refine V.a9 ?_ | refine V.NBoth.mk ?_ ?_ | refine V.b1 ?_ | refine V.b2 ?_ | refine V.NTF.dec ?_ | refine V.b3 ?_ | refine V.b4 ?_ | (refine V.NDraw.any (by kernel_rfl) ?_) | fail)
  exact V.S_
end Go.Proofs.YtpanlcnoopmchaaGreat

namespace Go.Proofs.YtpanlcnoopmchaaGreat
namespace Ag
open Ca (Day stp W)
def A : Tm := ⟨4, 7, 2, 100⟩
theorem a_1 : d1 W A 739935 = 739942 := (Ca.stp_p (by decide)).trans (Ca.stU_is (by unfold Ca.Up; decide))
theorem a_2 : d2 W A 739935 = 739951 := by
  unfold d2; rw [a_1]; exact (Ca.stp_p (by decide)).trans (Ca.stU_is (by unfold Ca.Up; decide))
theorem a_3 : d3 W A 739935 = 739953 := by
  unfold d3; rw [a_2]; exact (Ca.stp_p (by decide)).trans (Ca.stU_is (by unfold Ca.Up; decide))
theorem a_th : There W A 739935 := ⟨by rw [a_1]; decide, by rw [a_2]; decide, by rw [a_3]; decide⟩
end Ag
end Go.Proofs.YtpanlcnoopmchaaGreat

namespace Go.Proofs.YtpanlcnoopmchaaGreat
namespace Pn
def Ok (u p r : Int) : Prop := (0 ≤ u ∧ u ≤ 1073741824) ∧ P.Ok p ∧ (0 ≤ r ∧ r ≤ 1000000)
instance (u p r : Int) : Decidable (Ok u p r) := by unfold Ok; exact inferInstance
def cs (u p r : Int) : Int := P.cost u p * r / 1000000
def dE (u p r : Int) : Int := if Ok u p r then 0 else 3
def dV (u p r : Int) : Int := if Ok u p r then cs u p r else 0
theorem d_yes {u p r : Int} (h : Ok u p r) : dE u p r = 0 ∧ dV u p r = cs u p r := ⟨if_pos h, if_pos h⟩
theorem d_no {u p r : Int} (h : ¬ Ok u p r) : dE u p r = 3 ∧ dV u p r = 0 := ⟨if_neg h, if_neg h⟩
theorem mill_bd {n r : Int} (hn : 0 ≤ n) (hr : 0 ≤ r ∧ r ≤ 1000000) : 0 ≤ n * r / 1000000 ∧ n * r / 1000000 ≤ n := by
  have h1 := Int.mul_nonneg hn hr.1
  have h2 := Int.mul_le_mul_of_nonneg_left hr.2 hn
  generalize n * r = x at *
  omega
theorem part_mill {n r : Int} (hn : 0 ≤ n ∧ n ≤ 1152921504606846976) (hr : 0 ≤ r ∧ r ≤ 1000000) : M.prE n r 1000000 = 0 ∧ M.prQ n r 1000000 = n * r / 1000000 := by
  have h := mill_bd hn.1 hr
  have k : M.POk n r 1000000 := ⟨by unfold M.Amt; omega, by omega, by omega⟩
  have a : M.Amt (n * r / 1000000) := by unfold M.Amt; omega
  exact ⟨(M.pr_3 k a).1, (M.pr_3 k a).2.1⟩
theorem cs_part {u p r : Int} (h : Ok u p r) : M.prE (P.cost u p) r 1000000 = 0 ∧ M.prQ (P.cost u p) r 1000000 = cs u p r := by
  have a := P.cost_bd h.1 h.2.1
  exact part_mill (by omega) h.2.2
def tE (t : List Tm) : Int := if t.length ≠ 6 then 1 else if ∀ x ∈ t, Ag.Wi x then 0 else 3
theorem tE_ok {t : List Tm} (h : tE t = 0) : t.length = 6 ∧ ∀ x ∈ t, Ag.Wi x := by
  unfold tE at h
  split at h
  · omega
  · split at h
    · exact ⟨by omega, by assumption⟩
    · omega
theorem tE_of {t : List Tm} (h1 : t.length = 6) (h2 : ∀ x ∈ t, Ag.Wi x) : tE t = 0 := by unfold tE; rw [if_neg (by omega), if_pos h2]
theorem tE_bad {t : List Tm} (h1 : t.length = 6) {x : Tm} (hx : x ∈ t) (h2 : ¬ Ag.Wi x) : tE t = 3 := by unfold tE; rw [if_neg (by omega), if_neg fun q => h2 (q x hx)]
theorem tE_len {t : List Tm} (h : t.length ≠ 6) : tE t = 1 := if_pos h
noncomputable def oE (c : Cl) (n : Int) : Int := if Ca.e1 c n ≠ 0 then Ca.e1 c n else if Ca.isV c n = true then 0 else 4
noncomputable def yE (c : Cl) (t : List Tm) (l : List Fl) (ps : List Int) (n : Int) : Int :=
  if Ca.chk c ≠ 0 then Ca.chk c else if tE t ≠ 0 then tE t else if F.checks l ≠ 0 then F.checks l else if P.chks ps ≠ 0 then P.chks ps else oE c n
def cl (t : List Tm) (f : Fl) : Tm := t.getD f.cl.toNat default
noncomputable def eF (c : Cl) (t : List Tm) (n : Int) (f : Fl) : Int := Ag.sE c (cl t f) f n
noncomputable def qF (t : List Tm) (ps : List Int) (f : Fl) : Int := cs (F.left f) (P.pr ps f.pa) (cl t f).ra
def Late (s : Int) : Prop := s ≠ 0 ∧ s ≠ 5
noncomputable def du1 (c : Cl) (t : List Tm) (ps : List Int) (n : Int) (f : Fl) : List Du := open Classical in if Late (Ag.sV c (cl t f) f n) ∧ 0 < qF t ps f then [⟨f.fr, f.to, qF t ps f⟩] else []
noncomputable def dus (c : Cl) (t : List Tm) (ps : List Int) (n : Int) (l : List Fl) : List Du := l.flatMap (du1 c t ps n)
noncomputable def yD (c : Cl) (t : List Tm) (l : List Fl) (ps : List Int) (n : Int) : Int := if yE c t l ps n ≠ 0 then yE c t l ps n else fb (eF c t n) l
noncomputable def yL (c : Cl) (t : List Tm) (l : List Fl) (ps : List Int) (n : Int) : List Du := if yD c t l ps n = 0 then dus c t ps n l else []
theorem dus_snoc {c : Cl} {t : List Tm} {ps : List Int} {n : Int} {l : List Fl} {k : Nat} (h : k < l.length) : dus c t ps n (l.take (k + 1)) = dus c t ps n (l.take k) ++ du1 c t ps n (l.getD k default) := by
  unfold dus
  rw [List.take_succ_eq_append_getElem h, List.flatMap_append, ← getD_at h]
  simp
theorem du1_len (c : Cl) (t : List Tm) (ps : List Int) (n : Int) (f : Fl) : (du1 c t ps n f).length ≤ 1 := by
  unfold du1; split <;> simp
theorem dus_len (c : Cl) (t : List Tm) (ps : List Int) (n : Int) : ∀ l : List Fl, (dus c t ps n l).length ≤ l.length
  | [] => by simp [dus]
  | f :: r => by
    have h := dus_len c t ps n r
    have h2 := du1_len c t ps n f
    unfold dus at *
    rw [List.flatMap_cons, List.length_append, List.length_cons]
    omega
theorem du1_yes {c : Cl} {t : List Tm} {ps : List Int} {n : Int} {f : Fl} (h : Late (Ag.sV c (cl t f) f n)) (h2 : 0 < qF t ps f) : du1 c t ps n f = [⟨f.fr, f.to, qF t ps f⟩] := if_pos ⟨h, h2⟩
theorem du1_no {c : Cl} {t : List Tm} {ps : List Int} {n : Int} {f : Fl} (h : ¬ (Late (Ag.sV c (cl t f) f n) ∧ 0 < qF t ps f)) : du1 c t ps n f = [] := if_neg h
structure Right (c : Cl) (t : List Tm) (l : List Fl) (ps : List Int) (n : Int) : Prop where
  kc : Ca.chk c = 0
  kt : tE t = 0
  kl : F.checks l = 0
  kp : P.chks ps = 0
  ko : oE c n = 0
theorem yE_0 {c : Cl} {t : List Tm} {l : List Fl} {ps : List Int} {n : Int} (h : yE c t l ps n = 0) : Right c t l ps n := by
  unfold yE at h
  split at h
  · exact absurd h (by assumption)
  · split at h
    · exact absurd h (by assumption)
    · split at h
      · exact absurd h (by assumption)
      · split at h
        · exact absurd h (by assumption)
        · exact ⟨by omega, by omega, by omega, by omega, h⟩
theorem yE_of {c : Cl} {t : List Tm} {l : List Fl} {ps : List Int} {n : Int} (h : Right c t l ps n) : yE c t l ps n = 0 := by
  unfold yE
  rw [if_neg (by have := h.kc; omega), if_neg (by have := h.kt; omega), if_neg (by have := h.kl; omega), if_neg (by have := h.kp; omega), h.ko]
theorem yE_1 {c : Cl} {t : List Tm} {l : List Fl} {ps : List Int} {n : Int} (h : ¬ Ca.chk c = 0) : yE c t l ps n = Ca.chk c := if_pos h
theorem yE_2 {c : Cl} {t : List Tm} {l : List Fl} {ps : List Int} {n : Int} (h : Ca.chk c = 0) (h2 : ¬ tE t = 0) : yE c t l ps n = tE t := (if_neg (by omega)).trans (if_pos h2)
theorem yE_3 {c : Cl} {t : List Tm} {l : List Fl} {ps : List Int} {n : Int} (h : Ca.chk c = 0) (h2 : tE t = 0) (h3 : ¬ F.checks l = 0) : yE c t l ps n = F.checks l := (if_neg (by omega)).trans ((if_neg (by omega)).trans (if_pos h3))
theorem yE_4 {c : Cl} {t : List Tm} {l : List Fl} {ps : List Int} {n : Int} (h : Ca.chk c = 0) (h2 : tE t = 0) (h3 : F.checks l = 0) (h4 : ¬ P.chks ps = 0) : yE c t l ps n = P.chks ps := (if_neg (by omega)).trans ((if_neg (by omega)).trans ((if_neg (by omega)).trans (if_pos h4)))
theorem yE_5 {c : Cl} {t : List Tm} {l : List Fl} {ps : List Int} {n : Int} (h : Ca.chk c = 0) (h2 : tE t = 0) (h3 : F.checks l = 0) (h4 : P.chks ps = 0) : yE c t l ps n = oE c n := (if_neg (by omega)).trans ((if_neg (by omega)).trans ((if_neg (by omega)).trans (if_neg (by omega))))
theorem y_no {c : Cl} {t : List Tm} {l : List Fl} {ps : List Int} {n : Int} (h : ¬ yE c t l ps n = 0) : yD c t l ps n = yE c t l ps n ∧ yL c t l ps n = [] := by
  have e : yD c t l ps n = yE c t l ps n := if_pos h
  exact ⟨e, if_neg (by rw [e]; exact h)⟩
theorem y_bad {c : Cl} {t : List Tm} {l : List Fl} {ps : List Int} {n : Int} (h : yE c t l ps n = 0) (h2 : ¬ fb (eF c t n) l = 0) : yD c t l ps n = fb (eF c t n) l ∧ yL c t l ps n = [] := by
  have e : yD c t l ps n = fb (eF c t n) l := if_neg (by omega)
  exact ⟨e, if_neg (by rw [e]; exact h2)⟩
theorem y_yes {c : Cl} {t : List Tm} {l : List Fl} {ps : List Int} {n : Int} (h : yE c t l ps n = 0) (h2 : fb (eF c t n) l = 0) : yD c t l ps n = 0 ∧ yL c t l ps n = dus c t ps n l := by
  have e : yD c t l ps n = 0 := (if_neg (by omega)).trans h2
  exact ⟨e, if_pos e⟩
theorem y_ok {c : Cl} {t : List Tm} {l : List Fl} {ps : List Int} {n : Int} (h : yD c t l ps n = 0) : Right c t l ps n ∧ (∀ f ∈ l, eF c t n f = 0) ∧ yL c t l ps n = dus c t ps n l := by
  unfold yD at h
  split at h
  · exact absurd h (by assumption)
  · have h1 : yE c t l ps n = 0 := by omega
    exact ⟨yE_0 h1, fb_ok h, (y_yes h1 h).2⟩
theorem all_ok {fs : List Fl} (h : F.checks fs = 0) : ∀ f ∈ fs, F.Ok f := by
  have h60 : fs.length ≤ 60 := F.checks_len (by omega)
  unfold F.checks at h
  rw [if_neg (by omega)] at h
  obtain ⟨a, b⟩ := F.ckFrom_ok h
  exact fun f hf => F.chk_ok (a f hf).1
theorem qF_ok {t : List Tm} {ps : List Int} {f : Fl} (ht : tE t = 0) (hp : P.chks ps = 0) (hf : F.Ok f) : Ok (F.left f) (P.pr ps f.pa) (cl t f).ra := by
  obtain ⟨t1, t2⟩ := tE_ok ht
  have b := F.ok_bounds hf
  obtain ⟨⟨_, _, _, hc, ha, _⟩, _⟩ := hf
  have w := t2 (cl t f) (getD_mem (by omega))
  exact ⟨by omega, P.pr_ok hp ha, w.2.2.2⟩
theorem late_iff {c : Cl} {t : Tm} {f : Fl} {n : Int} (h : Ag.sE c t f n = 0) : Late (Ag.sV c t f n) ↔ 1 ≤ Ag.stg c t f n ∧ Ag.stg c t f n ≤ 4 := by
  rw [Ag.sV_yes h]
  have b : 0 ≤ Ag.stg c t f n ∧ Ag.stg c t f n ≤ 5 := by
    unfold Ag.stg
    split
    · omega
    · have o : ∀ (p : Prop) [Decidable p], 0 ≤ Ag.one p ∧ Ag.one p ≤ 1 := fun p _ => by unfold Ag.one; split <;> omega
      have o1 := o (f.day < n)
      have o2 := o (Ag.d1 c t f.day < n)
      have o3 := o (Ag.d2 c t f.day < n)
      have o4 := o (Ag.d3 c t f.day < n)
      omega
  unfold Late
  omega
end Pn
end Go.Proofs.YtpanlcnoopmchaaGreat

namespace Go.Proofs.YtpanlcnoopmchaaGreat
open Go Go.RowKit V
namespace M
theorem chk0 {a : Int} : chk a = 0 ↔ (-1152921504606846976 ≤ a ∧ a ≤ 1152921504606846976) := ⟨chk_ok, chk_yes⟩
end M
theorem v_acheck (a : Int) : V.Fn Tryz.prog 91 [] [.one (.val (.int .i64 a))] (.int .i64 (M.chk a)) := by
  refine V.Fn.mk_ V.Tok V.mixed Tryz.func91 rfl Tryz.ntmps91 (by kernel_rfl) rfl rfl ?_
  repeat' ((conv => whnf); first | refine V.NCond.mk ?_ | refine V.NPick.l ?_ | refine V.NIf.not_ ?_ | refine V.NIf.dec_ ?_ | refine V.a4 ?_ | refine V.a5 ?_ | refine V.NIf.mk (fun _ => ?_) (fun _ => ?_) | refine V.a7 ?_ | refine V.a8 ?_ | refine V.a9 ?_ | refine V.NBoth.mk ?_ ?_ | refine V.b1 ?_ | refine V.b2 ?_ | refine V.NTF.dec ?_ | refine V.b3 ?_ | refine V.b4 ?_ | (first | refine V.Fn.k0 (v_rbetween _ _ _) rfl ?_ | refine V.Fn.q0 (v_rbetween _ _ _) rfl ?_ | refine V.Fn.a0 (v_rbetween _ _ _) rfl ?_) | (refine V.NDraw.any (by kernel_rfl) ?_) | fail)
  all_goals ((conv => whnf); refine congrArg _ ?_; unfold M.chk M.Amt; (repeat' split) <;> first | rfl | omega | (exfalso; omega) | (simp_all; done) | (simp_all; omega))
namespace M
def poQ (a b c : Int) : Int := if 2305843009213693952 < a * b / c then -1 else a * b / c
def poR (a b c : Int) : Int := if 2305843009213693952 < a * b / c then 0 else a * b % c
theorem bit2 (b : Int) (m : Nat) : b / 2 ^ m = 2 * (b / 2 ^ (m + 1)) + b / 2 ^ m % 2 := by
  have p : (0 : Int) ≤ 2 ^ m := Int.le_of_lt (Int.pow_pos (by omega))
  rw [Int.pow_succ, ← Int.ediv_ediv_of_nonneg p]
  omega
theorem po1 {a b c q r t : Int} {m : Nat} (hJ : q * c + r = a * (b / 2 ^ (m + 1))) (ht : t = b / 2 ^ m % 2) (h1 : t = 1) : (2 * q + a / c + (2 * r + a % c) / c) * c + (2 * r + a % c) % c = a * (b / 2 ^ m) := by
  have h2 := qr a c
  have h3 := qr (2 * r + a % c) c
  have h4 := bit2 b m
  generalize b / 2 ^ m = X at *
  generalize b / 2 ^ (m + 1) = Y at *
  have h5 : X = 2 * Y + 1 := by omega
  clear h4 ht
  grind
theorem po0 {a b c q r t : Int} {m : Nat} (hJ : q * c + r = a * (b / 2 ^ (m + 1))) (ht : t = b / 2 ^ m % 2) (h0 : 0 ≤ t) (h2 : t < 2) (h1 : ¬ t = 1) : (2 * q + (2 * r) / c) * c + (2 * r) % c = a * (b / 2 ^ m) := by
  have h3 := qr (2 * r) c
  have h4 := bit2 b m
  generalize b / 2 ^ m = X at *
  generalize b / 2 ^ (m + 1) = Y at *
  have h5 : X = 2 * Y := by omega
  clear h4 ht
  grind
theorem po_big {a b c Q R : Int} {m : Nat} (ha : 0 ≤ a) (hb : 0 ≤ b) (hc : 1 ≤ c) (h : Q * c + R = a * (b / 2 ^ m)) (hR : 0 ≤ R) (hQ : 2305843009213693952 < Q) : -1 = poQ a b c ∧ 0 = poR a b c := by
  have h1 : b / 2 ^ m ≤ b := Int.ediv_le_self _ hb
  have h2 : a * (b / 2 ^ m) ≤ a * b := Int.mul_le_mul_of_nonneg_left h1 ha
  have h3 : Q ≤ a * b / c := (Int.le_ediv_iff_mul_le (by omega)).2 (by omega)
  unfold poQ poR
  rw [if_pos (by omega), if_pos (by omega)]; exact ⟨rfl, rfl⟩
theorem po_end {a b c q r : Int} (hc : 1 ≤ c) (h : q * c + r = a * (b / 2 ^ 0)) (hr : 0 ≤ r ∧ r < c) (hq : q ≤ 2305843009213693952) : q = poQ a b c ∧ r = poR a b c := by
  have e : b / 2 ^ 0 = b := by simp
  rw [e] at h
  have h1 : a * b / c = q := by
    rw [← h, Int.add_comm, Int.add_mul_ediv_right _ _ (by omega), Int.ediv_eq_zero_of_lt hr.1 hr.2]; omega
  have h2 : a * b % c = r := by
    rw [← h, Int.add_comm, Int.add_mul_emod_self_right]; exact Int.emod_eq_of_lt hr.1 hr.2
  unfold poQ poR
  rw [if_neg (by omega), if_neg (by omega), h1, h2]; exact ⟨rfl, rfl⟩
end M
set_option maxHeartbeats 1000000 in
theorem v_partOf (a b c : Int) (ha : 0 ≤ a ∧ a ≤ 1152921504606846976) (hb : 0 ≤ b ∧ b ≤ 1099511627776) (hc : 1 ≤ c ∧ c ≤ 1099511627776) : V.Fn Tryz.prog 148 [] [.one (.val (.int .i64 a)), .one (.val (.int .i64 b)), .one (.val (.int .i64 c))] (.tuple #[.int .i64 (M.poQ a b c), .int .i64 (M.poR a b c)]) := by
  refine V.Fn.mk_ V.Tok V.mixed Tryz.func148 rfl Tryz.ntmps148 (by kernel_rfl) rfl rfl ?_
  (conv => whnf)
  refine V.NLoop.auto (fun (⟨n, q, r⟩ : Nat × Int × Int) => [(8, .one (.val (.int .i64 q))), (9, .one (.val (.int .i64 r))), (10, .one (.val (.int .i64 ((n : Int) - 1))))]) (fun (⟨n, q, r⟩ : Nat × Int × Int) => []) [] [] (fun (⟨n, q, r⟩ : Nat × Int × Int) => n) (fun (⟨n, q, r⟩ : Nat × Int × Int) => n ≤ 41 ∧ q * c + r = a * (b / 2 ^ n) ∧ (0 ≤ r ∧ r < c) ∧ 0 ≤ q ∧ q ≤ 2305843009213693952) (41, 0, 0) ⟨by omega, (by rw [Int.ediv_eq_zero_of_lt (by omega) (by omega)]; omega), by omega, by omega⟩ V.S_ V.S_ (fun _ => ⟨rfl, rfl⟩) ?_; (conv => whnf); refine ⟨⟨rfl, rfl⟩, ?_⟩
  rintro ⟨n, q, r⟩ ⟨hn, hJ, hr, hq⟩
  cases n with
  | zero =>
    repeat' ((conv => whnf); first | refine V.NCond.mk ?_ | refine V.NPick.l ?_ | refine V.NIf.not_ ?_ | refine V.NIf.dec_ ?_ | refine V.a4 ?_ | refine V.a5 ?_ | refine V.NIf.mk (fun _ => ?_) (fun _ => ?_) | refine V.a7 ?_ | refine V.a8 ?_ | refine V.a9 ?_ | refine V.NBoth.mk ?_ ?_ | refine V.b1 ?_ | refine V.b2 ?_ | refine V.NTF.dec ?_ | refine V.b3 ?_ | refine V.b4 ?_ | (refine V.NDraw.any (by kernel_rfl) ?_) | fail)
    exact V.nif2 (M.po_end hc.1 hJ hr hq.2)
  | succ m =>
    repeat' ((conv => whnf); first | (refine NRem.pos (y := 2) (by omega) (by omega) ?_; intro t ht ht0 ht1) | refine V.NCond.mk ?_ | refine V.NPick.l ?_ | refine V.NIf.not_ ?_ | refine V.NIf.dec_ ?_ | refine V.a4 ?_ | refine V.a5 ?_ | refine V.NIf.mk (fun _ => ?_) (fun _ => ?_) | refine V.a7 ?_ | refine V.a8 ?_ | refine V.a9 ?_ | refine V.NBoth.mk ?_ ?_ | refine V.b1 ?_ | refine V.b2 ?_ | refine V.NTF.dec ?_ | refine V.b3 ?_ | refine V.b4 ?_ | (refine NShr.i64 m (by omega) (by omega) (by omega) ?_; intro x hx hx0 hx1) | (refine NRem.pos (by omega) (by omega) ?_; intro z hz hz0 hz1) | (refine NQuo.pos (by omega) (by omega) (by omega) ?_; intro z hz hz0 hz1) | (refine V.NDraw.any (by kernel_rfl) ?_) | fail)
    all_goals (conv => whnf)
    all_goals rename_i hz hz0 hz1 _
    all_goals subst_vars
    · exact V.nif2 (M.po_big ha.1 hb.1 hc.1 (M.po1 hJ rfl (by omega)) (by assumption) (by assumption))
    · refine V.NBack.at_ (m, _, _) [] ⟨by omega, M.po1 hJ rfl (by omega), ⟨by assumption, by assumption⟩, ?_, ?_⟩ (by show m < m + 1; omega) V.S_ rfl V.S_ V.S_ V.S_ <;> omega
    · exact V.nif2 (M.po_big ha.1 hb.1 hc.1 (M.po0 hJ rfl (by omega) (by omega) (by omega)) (by assumption) (by assumption))
    · refine V.NBack.at_ (m, _, _) [] ⟨by omega, M.po0 hJ rfl (by omega) (by omega) (by omega), ⟨by assumption, by assumption⟩, ?_, ?_⟩ (by show m < m + 1; omega) V.S_ rfl V.S_ V.S_ V.S_ <;> omega
namespace M
theorem po_at {a b c : Int} (ha : 0 ≤ a) (hb : 0 ≤ b) (hc : 1 ≤ c) : (poQ a b c = -1 ∧ 2305843009213693952 < a * b / c) ∨ (poQ a b c = a * b / c ∧ poR a b c = a * b % c ∧ 0 ≤ a * b / c ∧ a * b / c ≤ 2305843009213693952 ∧ 0 ≤ a * b % c ∧ a * b % c < c) := by
  have h1 : 0 ≤ a * b / c := Int.ediv_nonneg (Int.mul_nonneg ha hb) (by omega)
  have h2 := r_bd (x := a * b) hc
  unfold poQ poR
  by_cases h : 2305843009213693952 < a * b / c
  · left; rw [if_pos h]; exact ⟨rfl, h⟩
  · right; rw [if_neg h, if_neg h]; exact ⟨rfl, rfl, h1, by omega, h2.1, h2.2⟩
theorem po_key (a b c : Int) (hb : 0 ≤ b) (hc : 1 ≤ c) : (0 ≤ a → (poQ (1 * a) b c = -1 ∧ 2305843009213693952 < a * b / c) ∨ (poQ (1 * a) b c = a * b / c ∧ poR (1 * a) b c = a * b % c ∧ 0 ≤ a * b / c ∧ a * b / c ≤ 2305843009213693952 ∧ 0 ≤ a * b % c ∧ a * b % c < c)) ∧
    (a < 0 → (poQ (-1 * a) b c = -1 ∧ a * b / c < -2305843009213693952) ∨ ((0 ≤ poQ (-1 * a) b c ∧ poQ (-1 * a) b c ≤ 2305843009213693952) ∧ ((poR (-1 * a) b c = 0 ∧ a * b / c = -poQ (-1 * a) b c ∧ a * b % c = 0) ∨ (0 < poR (-1 * a) b c ∧ a * b / c = -poQ (-1 * a) b c - 1 ∧ a * b % c = c - poR (-1 * a) b c ∧ poR (-1 * a) b c < c)))) := by
  refine ⟨fun ha => ?_, fun ha => ?_⟩
  · rw [Int.one_mul]; exact po_at ha hb hc
  · have e : a * b = -(-1 * a * b) := by grind
    rw [e]
    generalize hx : -1 * a = x
    have h1 := po_at (a := x) (by omega) hb hc
    rcases neg_part (x := x * b) hc with ⟨n0, n1, n2⟩ | ⟨n0, n1, n2⟩ <;> rw [n1, n2] <;> omega
end M
set_option maxHeartbeats 1000000 in
theorem v_rpart (a b c : Int) : V.Fn Tryz.prog 145 [] [.one (.val (.int .i64 a)), .one (.val (.int .i64 b)), .one (.val (.int .i64 c))] (.tuple #[.int .i64 (M.prQ a b c), .int .i64 (M.prR a b c), .int .i64 (M.prE a b c)]) := by
  have ka := @M.chk0 a
  have key : 0 ≤ b ∧ 1 ≤ c → _ := fun h => M.po_key a b c h.1 h.2
  refine V.Fn.mk_ V.Tok V.mixed Tryz.func145 rfl Tryz.ntmps145 (by kernel_rfl) rfl rfl ?_
  repeat' ((conv => whnf); first | refine V.NCond.mk ?_ | refine V.NPick.l ?_ | refine V.NIf.not_ ?_ | refine V.NIf.dec_ ?_ | refine V.a4 ?_ | refine V.a5 ?_ | refine V.NIf.mk (fun _ => ?_) (fun _ => ?_) | refine V.a7 ?_ | refine V.a8 ?_ | refine V.a9 ?_ | refine V.NBoth.mk ?_ ?_ | refine V.b1 ?_ | refine V.b2 ?_ | refine V.NTF.dec ?_ | refine V.b3 ?_ | refine V.b4 ?_ | (first | refine V.Fn.k0 (v_acheck _) rfl ?_ | refine V.Fn.q0 (v_acheck _) rfl ?_ | refine V.Fn.a0 (v_acheck _) rfl ?_) | (first | refine V.Fn.k0 (v_rbetween _ _ _) rfl ?_ | refine V.Fn.q0 (v_rbetween _ _ _) rfl ?_ | refine V.Fn.a0 (v_rbetween _ _ _) rfl ?_) | (first | refine V.Fn.k0 (v_partOf (1 * a) b c (by omega) (by omega) (by omega)) rfl ?_ | refine V.Fn.q0 (v_partOf (1 * a) b c (by omega) (by omega) (by omega)) rfl ?_ | refine V.Fn.a0 (v_partOf (1 * a) b c (by omega) (by omega) (by omega)) rfl ?_) | (first | refine V.Fn.k0 (v_partOf (-1 * a) b c (by omega) (by omega) (by omega)) rfl ?_ | refine V.Fn.q0 (v_partOf (-1 * a) b c (by omega) (by omega) (by omega)) rfl ?_ | refine V.Fn.a0 (v_partOf (-1 * a) b c (by omega) (by omega) (by omega)) rfl ?_) | (refine V.NDraw.any (by kernel_rfl) ?_) | fail)
  all_goals (conv => whnf)
  all_goals refine V.fin3 ?_
  all_goals simp only [M.chk0] at *
  all_goals simp only [M.prQ, M.prR, M.prE, M.POk, M.Amt]
  all_goals clear ka
  all_goals refine ⟨?_, ?_, ?_⟩ <;> (repeat' split) <;> omega
end Go.Proofs.YtpanlcnoopmchaaGreat

namespace Go.Proofs.YtpanlcnoopmchaaGreat
open Go Go.RowKit V
theorem v_pcheck (p : Int) : V.Fn Tryz.prog 96 [] [.one (.val (.int .i64 p))] (.int .i64 (P.chk p)) := by
  refine V.Fn.mk_ V.Tok V.mixed Tryz.func96 rfl Tryz.ntmps96 (by kernel_rfl) rfl rfl ?_
  repeat' ((conv => whnf); first | refine V.NCond.mk ?_ | refine V.NPick.l ?_ | refine V.NIf.not_ ?_ | refine V.NIf.dec_ ?_ | refine V.a4 ?_ | refine V.a5 ?_ | refine V.NIf.mk (fun _ => ?_) (fun _ => ?_) | refine V.a7 ?_ | refine V.a8 ?_ | refine V.a9 ?_ | refine V.NBoth.mk ?_ ?_ | refine V.b1 ?_ | refine V.b2 ?_ | refine V.NTF.dec ?_ | refine V.b3 ?_ | refine V.b4 ?_ | (refine V.NDraw.any (by kernel_rfl) ?_) | fail)
  all_goals ((conv => whnf); refine congrArg _ ?_; unfold P.chk P.Ok; (repeat' split) <;> first | rfl | omega | (exfalso; omega) | (simp_all; done) | (simp_all; omega))
theorem v_rpcheck (p : Int) : V.Fn Tryz.prog 104 [] [.one (.val (.int .i64 p))] (.int .i64 (P.chk p)) := by
  refine V.Fn.mk_ V.Tok V.mixed Tryz.func104 rfl Tryz.ntmps104 (by kernel_rfl) rfl rfl ?_
  repeat' ((conv => whnf); first | refine V.NCond.mk ?_ | refine V.NPick.l ?_ | refine V.NIf.not_ ?_ | refine V.NIf.dec_ ?_ | refine V.a4 ?_ | refine V.a5 ?_ | refine V.NIf.mk (fun _ => ?_) (fun _ => ?_) | refine V.a7 ?_ | refine V.a8 ?_ | refine V.a9 ?_ | refine V.NBoth.mk ?_ ?_ | refine V.b1 ?_ | refine V.b2 ?_ | refine V.NTF.dec ?_ | refine V.b3 ?_ | refine V.b4 ?_ | (first | refine V.Fn.k0 (v_rbetween _ _ _) rfl ?_ | refine V.Fn.q0 (v_rbetween _ _ _) rfl ?_ | refine V.Fn.a0 (v_rbetween _ _ _) rfl ?_) | (refine V.NDraw.any (by kernel_rfl) ?_) | fail)
  all_goals ((conv => whnf); refine congrArg _ ?_; unfold P.chk P.Ok; (repeat' split) <;> first | rfl | omega | (exfalso; omega) | (simp_all; done) | (simp_all; omega))
theorem v_cost (u p : Int) : V.Fn Tryz.prog 158 [] [.one (.val (.int .i64 u)), .one (.val (.int .i64 p))] (.tuple #[.int .i64 (M.prQ u p 10000), .int .i64 (M.prR u p 10000), .int .i64 (M.prE u p 10000)]) := by
  have h1 : ¬ M.chk u = 0 → M.prE u p 10000 = 3 ∧ M.prQ u p 10000 = 0 ∧ M.prR u p 10000 = 0 ∧ M.chk u = 3 := fun h => by
    by_cases q : M.Amt u
    · exact absurd (M.chk_yes q) h
    · obtain ⟨a, b, c⟩ := M.pr_1 (a := u) (b := p) (c := 10000) (fun k => q k.1)
      exact ⟨a, b, c, M.chk_no q⟩
  have h2 : ¬ P.chk p = 0 → M.prE u p 10000 = 3 ∧ M.prQ u p 10000 = 0 ∧ M.prR u p 10000 = 0 ∧ P.chk p = 3 := fun h => by
    by_cases q : P.Ok p
    · exact absurd (P.chk_yes q) h
    · obtain ⟨a, b, c⟩ := M.pr_1 (a := u) (b := p) (c := 10000) (fun k => q k.2.1)
      exact ⟨a, b, c, P.chk_no q⟩
  refine V.Fn.mk_ V.Tok V.mixed Tryz.func158 rfl Tryz.ntmps158 (by kernel_rfl) rfl rfl ?_
  repeat' ((conv => whnf); first | refine V.NCond.mk ?_ | refine V.NPick.l ?_ | refine V.NIf.not_ ?_ | refine V.NIf.dec_ ?_ | refine V.a4 ?_ | refine V.a5 ?_ | refine V.NIf.mk (fun _ => ?_) (fun _ => ?_) | refine V.a7 ?_ | refine V.a8 ?_ | refine V.a9 ?_ | refine V.NBoth.mk ?_ ?_ | refine V.b1 ?_ | refine V.b2 ?_ | refine V.NTF.dec ?_ | refine V.b3 ?_ | refine V.b4 ?_ | (first | refine V.Fn.k0 (v_check _) rfl ?_ | refine V.Fn.q0 (v_check _) rfl ?_ | refine V.Fn.a0 (v_check _) rfl ?_) | (first | refine V.Fn.k0 (v_pcheck _) rfl ?_ | refine V.Fn.q0 (v_pcheck _) rfl ?_ | refine V.Fn.a0 (v_pcheck _) rfl ?_) | (first | refine V.Fn.k0 (v_part _ _ _) rfl ?_ | refine V.Fn.q0 (v_part _ _ _) rfl ?_ | refine V.Fn.a0 (v_part _ _ _) rfl ?_) | (refine V.NDraw.any (by kernel_rfl) ?_) | fail)
  all_goals (conv => whnf)
  · exact V.S_
  · obtain ⟨a, b, c, d⟩ := h2 (by assumption)
    rw [a, b, c, d]; exact V.S_
  · obtain ⟨a, b, c, d⟩ := h1 (by assumption)
    rw [a, b, c, d]; exact V.S_
theorem v_prices (l : List Int) (hn : l.length ≤ 9223372036854775807) : V.Fn Tryz.prog 39 [.arr 1 l.length (ga e1 l)] [.one (.ref 0)] (.int .i64 (P.chks l)) := by
  refine V.Fn.mk_ V.Tok V.mixed Tryz.func39 rfl Tryz.ntmps39 (by kernel_rfl) rfl rfl ?_
  repeat' ((conv => whnf); first | refine V.NCond.mk ?_ | refine V.NPick.l ?_ | refine V.NIf.not_ ?_ | refine V.NIf.dec_ ?_ | refine V.a4 ?_ | refine V.a5 ?_ | refine V.NIf.mk (fun _ => ?_) (fun _ => ?_) | refine V.a7 ?_ | refine V.a8 ?_ | refine V.a9 ?_ | refine V.NBoth.mk ?_ ?_ | refine V.b1 ?_ | refine V.b2 ?_ | refine V.NTF.dec ?_ | refine V.b3 ?_ | refine V.b4 ?_ | (refine V.NDraw.any (by kernel_rfl) ?_) | fail)
  all_goals (conv => whnf)
  rotate_left
  · exact V.fin1 (if_pos (by omega))
  refine V.NLoop.auto (fun (k : Nat) => [(11, .one (.val (.int .i64 k)))]) (fun (k : Nat) => []) [] [] (fun (k : Nat) => l.length - k) (fun (k : Nat) => k ≤ l.length ∧ ∀ p ∈ l.take k, P.Ok p) 0 ⟨Nat.zero_le _, by simp⟩ V.S_ V.S_ (fun _ => ⟨rfl, rfl⟩) ?_; (conv => whnf); refine ⟨⟨rfl, rfl⟩, ?_⟩
  rintro k ⟨hk, hJ⟩
  by_cases hlt : k < l.length
  · have hy := @P.chk_yes (l.getD k default)
    have hn := @P.chk_no (l.getD k default)
    by_cases ok : P.Ok (l.getD k default)
    · have e := hy ok
      repeat' ((conv => whnf); first | refine V.NCond.mk ?_ | refine V.NPick.l ?_ | refine V.NIf.not_ ?_ | refine V.NIf.dec_ ?_ | refine V.a4 ?_ | refine V.a5 ?_ | refine V.NIf.mk (fun _ => ?_) (fun _ => ?_) | refine V.a7 ?_ | refine V.a8 ?_ | refine V.a9 ?_ | refine V.NBoth.mk ?_ ?_ | refine V.b1 ?_ | refine V.b2 ?_ | refine V.NTF.dec ?_ | refine V.b3 ?_ | refine V.b4 ?_ | (refine NIdx.mk ⟨k, rfl, by omega, ?_⟩) | (first | refine V.Fn.k0 (v_pcheck _) rfl ?_ | refine V.Fn.q0 (v_pcheck _) rfl ?_ | refine V.Fn.a0 (v_pcheck _) rfl ?_) | (refine V.NDraw.any (by kernel_rfl) ?_) | fail)
      all_goals (conv => whnf)
      all_goals exact V.NBack.at_ (k + 1) [] ⟨by omega, all_snoc hlt hJ ok⟩ (by omega) V.S_ rfl V.S_ V.S_ V.S_
    · have e := hn ok
      have e2 := P.chks_bad (by omega) (getD_mem hlt) ok
      repeat' ((conv => whnf); first | refine V.NCond.mk ?_ | refine V.NPick.l ?_ | refine V.NIf.not_ ?_ | refine V.NIf.dec_ ?_ | refine V.a4 ?_ | refine V.a5 ?_ | refine V.NIf.mk (fun _ => ?_) (fun _ => ?_) | refine V.a7 ?_ | refine V.a8 ?_ | refine V.a9 ?_ | refine V.NBoth.mk ?_ ?_ | refine V.b1 ?_ | refine V.b2 ?_ | refine V.NTF.dec ?_ | refine V.b3 ?_ | refine V.b4 ?_ | (refine NIdx.mk ⟨k, rfl, by omega, ?_⟩) | (first | refine V.Fn.k0 (v_pcheck _) rfl ?_ | refine V.Fn.q0 (v_pcheck _) rfl ?_ | refine V.Fn.a0 (v_pcheck _) rfl ?_) | (refine V.NDraw.any (by kernel_rfl) ?_) | fail)
      all_goals (conv => whnf)
      all_goals exact V.fin1 (by omega)
  · have e := P.chks_of (l := l) (by omega) (all_whole (by omega) hJ)
    repeat' ((conv => whnf); first | refine V.NCond.mk ?_ | refine V.NPick.l ?_ | refine V.NIf.not_ ?_ | refine V.NIf.dec_ ?_ | refine V.a4 ?_ | refine V.a5 ?_ | refine V.NIf.mk (fun _ => ?_) (fun _ => ?_) | refine V.a7 ?_ | refine V.a8 ?_ | refine V.a9 ?_ | refine V.NBoth.mk ?_ ?_ | refine V.b1 ?_ | refine V.b2 ?_ | refine V.NTF.dec ?_ | refine V.b3 ?_ | refine V.b4 ?_ | (refine V.NDraw.any (by kernel_rfl) ?_) | fail)
    all_goals (conv => whnf)
    all_goals exact V.fin1 (by omega)
theorem v_rprices (l : List Int) (hn : l.length ≤ 9223372036854775807) : V.Fn Tryz.prog 45 [.arr 1 l.length (ga e1 l)] [.one (.ref 0)] (.int .i64 (P.chks l)) := by
  refine V.Fn.mk_ V.Tok V.mixed Tryz.func45 rfl Tryz.ntmps45 (by kernel_rfl) rfl rfl ?_
  repeat' ((conv => whnf); first | refine V.NCond.mk ?_ | refine V.NPick.l ?_ | refine V.NIf.not_ ?_ | refine V.NIf.dec_ ?_ | refine V.a4 ?_ | refine V.a5 ?_ | refine V.NIf.mk (fun _ => ?_) (fun _ => ?_) | refine V.a7 ?_ | refine V.a8 ?_ | refine V.a9 ?_ | refine V.NBoth.mk ?_ ?_ | refine V.b1 ?_ | refine V.b2 ?_ | refine V.NTF.dec ?_ | refine V.b3 ?_ | refine V.b4 ?_ | (refine V.NDraw.any (by kernel_rfl) ?_) | fail)
  all_goals (conv => whnf)
  rotate_left
  · exact V.fin1 (if_pos (by omega))
  refine V.NLoop.auto (fun (k : Nat) => [(3, .one (.val (.int .i64 k)))]) (fun (k : Nat) => []) [] [] (fun (k : Nat) => l.length - k) (fun (k : Nat) => k ≤ l.length ∧ ∀ p ∈ l.take k, P.Ok p) 0 ⟨Nat.zero_le _, by simp⟩ V.S_ V.S_ (fun _ => ⟨rfl, rfl⟩) ?_; (conv => whnf); refine ⟨⟨rfl, rfl⟩, ?_⟩
  rintro k ⟨hk, hJ⟩
  by_cases hlt : k < l.length
  · have hy := @P.chk_yes (l.getD k default)
    have hn := @P.chk_no (l.getD k default)
    by_cases ok : P.Ok (l.getD k default)
    · have e := hy ok
      repeat' ((conv => whnf); first | refine V.NCond.mk ?_ | refine V.NPick.l ?_ | refine V.NIf.not_ ?_ | refine V.NIf.dec_ ?_ | refine V.a4 ?_ | refine V.a5 ?_ | refine V.NIf.mk (fun _ => ?_) (fun _ => ?_) | refine V.a7 ?_ | refine V.a8 ?_ | refine V.a9 ?_ | refine V.NBoth.mk ?_ ?_ | refine V.b1 ?_ | refine V.b2 ?_ | refine V.NTF.dec ?_ | refine V.b3 ?_ | refine V.b4 ?_ | (refine NIdx.mk ⟨k, rfl, by omega, ?_⟩) | (first | refine V.Fn.k0 (v_rpcheck _) rfl ?_ | refine V.Fn.q0 (v_rpcheck _) rfl ?_ | refine V.Fn.a0 (v_rpcheck _) rfl ?_) | (refine V.NDraw.any (by kernel_rfl) ?_) | fail)
      all_goals (conv => whnf)
      all_goals exact V.NBack.at_ (k + 1) [] ⟨by omega, all_snoc hlt hJ ok⟩ (by omega) V.S_ rfl V.S_ V.S_ V.S_
    · have e := hn ok
      have e2 := P.chks_bad (by omega) (getD_mem hlt) ok
      repeat' ((conv => whnf); first | refine V.NCond.mk ?_ | refine V.NPick.l ?_ | refine V.NIf.not_ ?_ | refine V.NIf.dec_ ?_ | refine V.a4 ?_ | refine V.a5 ?_ | refine V.NIf.mk (fun _ => ?_) (fun _ => ?_) | refine V.a7 ?_ | refine V.a8 ?_ | refine V.a9 ?_ | refine V.NBoth.mk ?_ ?_ | refine V.b1 ?_ | refine V.b2 ?_ | refine V.NTF.dec ?_ | refine V.b3 ?_ | refine V.b4 ?_ | (refine NIdx.mk ⟨k, rfl, by omega, ?_⟩) | (first | refine V.Fn.k0 (v_rpcheck _) rfl ?_ | refine V.Fn.q0 (v_rpcheck _) rfl ?_ | refine V.Fn.a0 (v_rpcheck _) rfl ?_) | (refine V.NDraw.any (by kernel_rfl) ?_) | fail)
      all_goals (conv => whnf)
      all_goals exact V.fin1 (by omega)
  · have e := P.chks_of (l := l) (by omega) (all_whole (by omega) hJ)
    repeat' ((conv => whnf); first | refine V.NCond.mk ?_ | refine V.NPick.l ?_ | refine V.NIf.not_ ?_ | refine V.NIf.dec_ ?_ | refine V.a4 ?_ | refine V.a5 ?_ | refine V.NIf.mk (fun _ => ?_) (fun _ => ?_) | refine V.a7 ?_ | refine V.a8 ?_ | refine V.a9 ?_ | refine V.NBoth.mk ?_ ?_ | refine V.b1 ?_ | refine V.b2 ?_ | refine V.NTF.dec ?_ | refine V.b3 ?_ | refine V.b4 ?_ | (refine V.NDraw.any (by kernel_rfl) ?_) | fail)
    all_goals (conv => whnf)
    all_goals exact V.fin1 (by omega)
end Go.Proofs.YtpanlcnoopmchaaGreat

namespace Go.Proofs.YtpanlcnoopmchaaGreat.V
open Go Go.RowKit
def lpK (obs : Obs) (i : Nat) (K : Lc → Env → Lst → Prop) : Prop := fndK obs i fun o => match o with
  | .lp L env st => K L env st
  | _ => False
theorem lpK_spec {obs : Obs} {i : Nat} {K : Lc → Env → Lst → Prop} (h : lpK obs i K) : ∃ L env st, fnd obs i = some (.lp L env st) ∧ K L env st := by
  obtain ⟨o, ho, h⟩ := fndK_spec h
  cases o <;> first | exact h.elim | exact ⟨_, _, _, ho, h⟩
def zipK (sz : Nat) : List Nat → List SV → Env → (Env → Prop) → Prop
  | [], [], env, K => K env
  | p :: ps, v :: vs, env, K => match Nat.blt p sz with
    | true => zipK sz ps vs ((p, v) :: env) K
    | false => False
  | _, _, _, _ => False
theorem zip_spec {sz : Nat} {ρ : Rho} : ∀ {ps : List Nat} {vs : List SV} {xs : List Value} {env : Env} {tmps : Array Value} {K : Env → Prop}, EnvR sz ρ env { tmps := tmps, defers := [] } → Svs ρ vs xs → zipK sz ps vs env K →
    ∃ env', K env' ∧ xs.length = ps.length ∧ EnvR sz ρ env' { tmps := (ps.zip xs).foldl (fun t (p : Nat × Value) => t.setIfInBounds p.1 p.2) tmps, defers := [] }
  | [], [], xs, env, tmps, K, hE, hs, h => by
    have e : xs = [] := hs
    subst e
    exact ⟨env, h, rfl, hE⟩
  | p :: ps, v :: vs, xs, env, tmps, K, hE, ⟨x, r, e, hv, hr⟩, h => by
    subst e
    unfold zipK at h
    cases hb : Nat.blt p sz <;> simp only [hb] at h
    have hd : p < sz := by simpa [Nat.blt_eq] using hb
    have hsz : tmps.size = sz := hE.size
    have hE' : EnvR sz ρ ((p, v) :: env) { tmps := tmps.setIfInBounds p x, defers := [] } := by
      refine ⟨by simp [hsz], fun t u hu => ?_⟩
      rcases fnd_cons hu with ⟨rfl, rfl⟩ | ⟨hn, hu⟩
      · exact ⟨x, by simp [hsz, hd], SV.is_of1 hv⟩
      · obtain ⟨y, hy, h2⟩ := hE.env t u hu
        exact ⟨y, by rw [Array.getElem?_setIfInBounds_ne hn]; exact hy, h2⟩
    obtain ⟨env', hK, hl, hE2⟩ := zip_spec hE' hr h
    exact ⟨env', hK, by simp [hl], hE2⟩
  | [], _ :: _, _, _, _, _, _, _, h => h.elim
  | _ :: _, [], _, _, _, _, _, _, h => h.elim
def rndK (i : Nat) (K : SV → Obs → Nat → Prop) : Kon := fun e _ obs nx => lpK obs i fun L env st => match st with
  | .busy => match e with
    | .nrm => K (.one (.tf true)) ((i, .lp L env .ready) :: obs) nx
    | .exit id => K (.one (.tf false)) ((i, .lp L env (.done (.exit id))) :: obs) nx
    | .ret => K (.one (.tf false)) ((i, .lp L env (.done .ret)) :: obs) nx
  | _ => False
def endK (i : Nat) (env : Env) (K : Kon) (obs : Obs) (nx : Nat) : Prop := lpK obs i fun _ _ st => match st with
  | .ready => K .nrm env ((i, .gone) :: obs) nx
  | .done (.exit id) => K (.exit id) env ((i, .gone) :: obs) nx
  | .done .ret => K .ret env ((i, .gone) :: obs) nx
  | _ => False
theorem put_below {B l : Nat} {w : World} (h : B ≤ l) (o : Obj) : Below B w (w.putObj l o) :=
  ⟨rfl, rfl, rfl, by rw [World.putObj_size]; exact Nat.le_refl _, fun k hk => World.putObj_heap_other (by omega)⟩
theorem put_oth {l : Nat} {w : World} {r : Loop} (h : w.heap[l]? = some (.loop r)) (o : Obj) : Oth w (w.putObj l o) :=
  oth_one (b := l) (fun k hk => World.putObj_heap_other hk) fun D e => by rw [h] at e; cases e
theorem Cls.lpset {B nx : Nat} {ρ : Rho} {obs : Obs} {w : World} {i l : Nat} {L : Lc} {env : Env} {st : Lst} (hC : Cls B ρ obs nx w) (ho : fnd obs i = some (.lp L env st)) (hl : ρ i = some (.func (.yield l) #[] #[])) :
    ∃ fn tmps D, B ≤ l ∧ w.heap[l]? = some (.loop { state := st.state, pending := st.pend, fn := fn, tmps := tmps, params := L.ps.toArray, assign := L.assign, body := L.body, defers := D }) ∧
      ∀ st' : Lst, Cls B ρ ((i, .lp L env st') :: obs) nx (w.putObj l (.loop { state := st'.state, pending := st'.pend, fn := fn, tmps := tmps, params := L.ps.toArray, assign := L.assign, body := L.body, defers := D })) := by
  obtain ⟨l', fn, tmps, D, e, hB, hh, hE⟩ := hC.sat i _ ho
  rw [hl] at e
  have e : l = l' := by injection e with e; injection e with e; injection e
  subst e
  have hf : ∀ st' : Lst, foot ρ i (.lp L env st') = some l := fun st' => by simp [foot, hl]
  exact ⟨fn, tmps, D, hB, hh, fun st' => hC.set ho rfl (hf st) (.inl (hf st')) rfl World.putObj_size (fun k hk => World.putObj_heap_other hk)
    ⟨l, fn, tmps, D, hl, hB, World.putObj_heap_same (Array.getElem?_eq_some_iff.1 hh).1, hE⟩⟩
theorem Cls.kill {B nx : Nat} {ρ : Rho} {obs : Obs} {w w' : World} {i b : Nat} {o : Ob} (h : Cls B ρ obs nx w) (ho : fnd obs i = some o) (hm : o.mut = true) (hf : foot ρ i o = some b) (hsz : w'.heap.size = w.heap.size) (hk : ∀ k, k ≠ b → w'.heap[k]? = w.heap[k]?) : Cls B ρ ((i, .gone) :: obs) nx w' := by
  refine ⟨by rw [hsz]; exact h.le, fun j u hu => ?_, fun j k o1 o2 c h1 h2 hne hmu hf1 => ?_, h.new, Apx.cons (o' := .gone) h.apx (fun _ _ _ _ => rfl) fun _ _ _ _ _ _ q => by cases q⟩
  · rcases fnd_cons hu with ⟨rfl, rfl⟩ | ⟨hn, hu⟩
    · trivial
    · exact (h.sat j u hu).keep (by omega) (fun c hc => hk c (fun e => by subst e; exact h.apart i j o u c ho hu hn hm hf hc)) fun c hc => hk c fun e => by subst e; exact (h.apx j i u o c hu ho hc).1 hf
  · rcases fnd_cons h1 with ⟨rfl, rfl⟩ | ⟨hn1, h1⟩
    · cases hf1
    · rcases fnd_cons h2 with ⟨rfl, rfl⟩ | ⟨hn2, h2⟩
      · intro e; cases e
      · exact h.apart j k o1 o2 c h1 h2 hne hmu hf1
theorem NYield.mk_ {P : Program} {T : TT} (hT : TTok P T) (hm : P.follows .mixedOrders = true) {i : Nat} {L : Lc} {env0 : Env} {sz : Nat} {ps : List Nat} {assign body : Code} (hL : L = ⟨sz, ps, assign, body⟩) (hc : (calm assign && calm body) = true)
    {args : List SV} {obs : Obs} {nx : Nat} {K : SV → Obs → Nat → Prop} (ho : fnd obs i = some (.lp L env0 .ready))
    (h : zipK sz ps args env0 fun env => vc P T sz nx assign env obs nx fun e env1 obs1 nx1 => match e with
      | .nrm => lpK obs1 i fun L1 e1 st => match st with
        | .ready => vc P T sz nx body env1 ((i, .lp L1 e1 .busy) :: obs1) nx1 (rndK i K)
        | _ => False
      | _ => False) : NYield P i args obs nx K :=
  ⟨fun B ρ w xs l n hC hs hl => by
    subst hL
    simp only [Bool.and_eq_true] at hc
    obtain ⟨l', fn, tmps, D, e, hB, hh, hE0⟩ := hC.sat i _ ho
    rw [hl] at e
    have e : l = l' := by injection e with e; injection e with e; injection e
    subst e
    obtain ⟨env, h, hlen, hE⟩ := zip_spec hE0 hs h
    have hy := run_yield (P := P) (args := xs.toArray) hh (by simp [hlen])
    have hin : i < nx := by
      rcases Nat.lt_or_ge i nx with q | q
      · exact q
      · rw [hC.new i q] at hl; cases hl
    have ex : ∀ {ρ1 : Rho} {ds : List Deferred} {w1 : World}, Wy B ⟨w, ρ, nx⟩ ρ1 ds w1 → ∀ j y, ρ j = some y → ρ1 j = some y := fun {ρ1 ds w1} hW j y hy => by
      by_cases hj : j < nx
      · exact hW.e j y hj hy
      · rw [hC.new j (by omega)] at hy; cases hy
    refine ⟨fn, _, assign, body, hy, roundIn_of_wpIn trivial ?_⟩
    have et : ((ps.toArray.zip xs.toArray).foldl (fun t (x : Nat × Value) => match x with | (t', a) => t.setIfInBounds t' a) tmps) = (ps.zip xs).foldl (fun t (p : Nat × Value) => t.setIfInBounds p.1 p.2) tmps := by
      rw [← Array.foldl_toList, Array.toList_zip]
    rw [et]
    have h1 := vc_sound (ro := some l) (n := n) (w0 := ⟨w, ρ, nx⟩) hT hm assign (.inr hc.1) h hE hC ⟨Below.refl _ _, Oth.refl _, fun _ _ _ h => h, [], rfl, List.nodup_nil, by simp⟩
    refine wpIn_mono h1 ?_
    intro e a1 w1 q
    cases e with
    | normal =>
      obtain ⟨ρ1, env1, obs1, nx1, hk, hE1, hC1, hW1⟩ := q
      obtain ⟨L1, e1, st, ho1, hk⟩ := lpK_spec hk
      split at hk
      rotate_left
      · exact hk.elim
      have hl1 := ex hW1 _ _ hl
      obtain ⟨fn1, tmps1, D1, _, hh1, hset⟩ := hC1.lpset ho1 hl1
      refine ⟨_, run_beginRound hh1 rfl, ?_⟩
      have h2 := vc_sound (ro := some l) (n := n) (w0 := ⟨w, ρ, nx⟩) hT hm body (.inr hc.2) hk hE1 (hset .busy) (hW1.trans (put_below hB _) (put_oth hh1 _))
      refine wpIn_mono h2 ?_
      intro e a2 w2 q
      have fin : ∀ (e : Ex) (st : Lst) (b : Bool) (K2 : Env → Obs → Nat → Prop), Nx B ⟨w, ρ, nx⟩ sz K2 a2 w2 → (∀ env2 obs2 nx2, K2 env2 obs2 nx2 → lpK obs2 i fun L env s => match s with
            | .busy => K (.one (.tf b)) ((i, .lp L env st) :: obs2) nx2
            | _ => False) → st ≠ .busy → b = st.pend.isNone → st.state = (if st.pend.isNone then .ready else .done) →
          ∃ v w', (Instr.endRound l st.pend).run P w2 = .ok v w' ∧ ∃ u obs' nx' ρ' x, K u obs' nx' ∧ (∀ i y, ρ i = some y → ρ' i = some y) ∧ Ending.returned v = .returned x ∧ u.is ρ' x ∧ Cls B ρ' obs' nx' w' ∧ Below B w w' ∧ Oth w w' := by
        rintro e st b K2 ⟨ρ2, env2, obs2, nx2, hk2, hE2, hC2, hW2⟩ hK hnb hb hst
        obtain ⟨L2, e2, s2, ho2, hk2⟩ := lpK_spec (hK _ _ _ hk2)
        split at hk2
        rotate_left
        · exact hk2.elim
        obtain ⟨fn2, tmps2, D2, _, hh2, hset2⟩ := hC2.lpset ho2 (ex hW2 _ _ hl)
        refine ⟨_, _, run_endRound st.pend hh2, _, _, _, ρ2, _, hk2, ex hW2, rfl, ?_, ?_, hW2.b.trans (put_below hB _), hW2.o.trans (put_oth hh2 _)⟩
        · subst hb; exact rfl
        · have := hset2 st
          rw [hst] at this
          exact this
      cases e with
      | normal => exact fin .nrm .ready true _ q (fun _ _ _ h => h) (fun q => by cases q) rfl rfl
      | ret => exact fin .ret (.done .ret) false _ q (fun _ _ _ h => h) (fun q => by cases q) rfl rfl
      | exit id => exact fin (.exit id) (.done (.exit id)) false _ q (fun _ _ _ h => h) (fun q => by cases q) rfl rfl
      | goto t => exact q.elim
      | panic c => exact q.elim
      | outgrown => exact q.elim
    | exit id => obtain ⟨_, _, _, _, hk, _⟩ := q; exact hk.elim
    | ret => obtain ⟨_, _, _, _, hk, _⟩ := q; exact hk.elim
    | goto t => exact q
    | panic c => exact q
    | outgrown => exact q⟩
structure NIs (a b : Nat) (K : Prop) : Prop where
  e : a = b
  h : K
theorem run_enter {P : Program} {f : FuncId} (hb : hasBody P f = true) (args : Array Value) (w : World) : (callFunc f args).run P w = .ok (.enter f args) w := by
  unfold hasBody at hb
  cases hf : P.funcs[f]? with
  | none => rw [hf] at hb; cases hb
  | some fn =>
    rw [hf] at hb
    simp only [Bool.and_eq_true, Bool.not_eq_true', Option.isSome_iff_ne_none] at hb
    obtain ⟨h1, h2⟩ := hb
    have h3 : fn.body.isNone = false := by cases hq : fn.body with | none => exact absurd hq h1 | some c => rfl
    have h4 : ¬ fn.name = "runtime.NumGoroutine" := by simpa using h2
    simp [callFunc, hf, h4, h3, Sem.run_bind]
    exact fun q => absurd q h1
def mvA (i j : Nat) : At → At
  | .ref k => match Nat.beq k i with
    | true => .ref j
    | false => .ref k
  | a => a
def mvOb (i j : Nat) : Ob → Ob
  | .box t l => .box t (l.map (mvA i j))
  | o => o
def mvObs (i j : Nat) : Obs → Obs
  | [] => []
  | (k, o) :: r => match Nat.beq k i with
    | true => (k, .gone) :: mvObs i j r
    | false => (k, mvOb i j o) :: mvObs i j r
theorem mvObs_get {i j k : Nat} {o : Ob} : ∀ {obs : Obs}, fnd (mvObs i j obs) k = some o → (k = i ∧ o = .gone) ∨ (k ≠ i ∧ ∃ o', fnd obs k = some o' ∧ o = mvOb i j o')
  | [], h => by cases h
  | (u, x) :: r, h => by
    unfold mvObs at h
    cases hb : Nat.beq u i <;> simp only [hb] at h
    · rcases fnd_cons h with ⟨rfl, rfl⟩ | ⟨hn, h⟩
      · exact .inr ⟨Nat.ne_of_beq_eq_false hb, x, by unfold fnd; rw [Nat.beq_refl], rfl⟩
      · rcases mvObs_get h with q | ⟨q, o', h1, h2⟩
        · exact .inl q
        · refine .inr ⟨q, o', ?_, h2⟩
          unfold fnd
          cases hb2 : Nat.beq u k
          · exact h1
          · exact absurd (Nat.eq_of_beq_eq_true hb2) hn
    · have e := Nat.eq_of_beq_eq_true hb
      subst e
      rcases fnd_cons h with ⟨rfl, rfl⟩ | ⟨hn, h⟩
      · exact .inl ⟨rfl, rfl⟩
      · rcases mvObs_get h with q | ⟨q, o', h1, h2⟩
        · exact .inl q
        · refine .inr ⟨q, o', ?_, h2⟩
          unfold fnd
          cases hb2 : Nat.beq u k
          · exact h1
          · exact absurd (Nat.eq_of_beq_eq_true hb2) hn
theorem Ats.mv {i j : Nat} {ρ : Rho} (hj : ρ j = ρ i) : ∀ {l : List At} {x : List Value}, Ats ρ l x → Ats ρ (l.map (mvA i j)) x
  | [], _, h => h
  | a :: l, _, ⟨u, r, hx, ha, hr⟩ => by
    refine ⟨u, r, hx, ?_, Ats.mv hj hr⟩
    cases a with
    | ref k =>
      show (mvA i j (.ref k)).is ρ u
      simp only [mvA]
      cases hb : Nat.beq k i
      · exact ha
      · have e := Nat.eq_of_beq_eq_true hb
        subst e
        exact ⟨hj.trans ha.1, ha.2⟩
    | _ => exact ha
theorem foot_mv {ρ : Rho} {i j k : Nat} {o : Ob} : foot ρ k (mvOb i j o) = foot ρ k o := by cases o <;> rfl
def mvAsK (i j : Nat) : List At → (List At → Prop) → Prop
  | [], K => K []
  | a :: l, K => match a with
    | .ref k => match Nat.beq k i with
      | true => mvAsK i j l fun r => K (.ref j :: r)
      | false => mvAsK i j l fun r => K (.ref k :: r)
    | a => mvAsK i j l fun r => K (a :: r)
theorem mvAsK_eq {i j : Nat} : ∀ {l : List At} {K : List At → Prop}, mvAsK i j l K → K (l.map (mvA i j))
  | [], _, h => h
  | a :: l, K, h => by
    unfold mvAsK at h
    cases a with
    | ref k =>
      simp only at h
      rw [List.map_cons]
      show K (mvA i j (.ref k) :: _)
      simp only [mvA]
      cases hb : Nat.beq k i <;> simp only [hb] at h ⊢ <;> exact mvAsK_eq (K := fun r => K (_ :: r)) h
    | _ => exact mvAsK_eq (K := fun r => K (_ :: r)) h
def mvK (i j : Nat) : Obs → (Obs → Prop) → Prop
  | [], K => K []
  | (k, o) :: r, K => match Nat.beq k i with
    | true => mvK i j r fun r' => K ((k, .gone) :: r')
    | false => match o with
      | .box t l => mvAsK i j l fun l' => mvK i j r fun r' => K ((k, .box t l') :: r')
      | o => mvK i j r fun r' => K ((k, o) :: r')
theorem mvK_eq {i j : Nat} : ∀ {obs : Obs} {K : Obs → Prop}, mvK i j obs K → K (mvObs i j obs)
  | [], _, h => h
  | (k, o) :: r, K, h => by
    unfold mvK at h
    unfold mvObs
    cases hb : Nat.beq k i <;> simp only [hb] at h ⊢
    · cases o with
      | box t l => exact mvK_eq (K := fun r' => K (_ :: r')) (mvAsK_eq h)
      | _ => exact mvK_eq (K := fun r' => K (_ :: r')) h
    · exact mvK_eq (K := fun r' => K (_ :: r')) h
theorem Cls.mv {B nx : Nat} {ρ : Rho} {obs : Obs} {w : World} (i : Nat) {t s n : Nat} {get : Nat → List Value} (hC : Cls B ρ obs nx w) (ho : fnd obs i = some (.row t s n get)) :
    ∃ ρ', Ext ρ ρ' ∧ Cls B ρ' ((nx, .row t s n get) :: mvObs i nx obs) (nx + 1) w := by
  obtain ⟨v, hv, hr⟩ := hC.sat i _ ho
  have hx : Ext ρ (upd ρ nx v) := ext_upd (hC.new nx (Nat.le_refl _))
  have hne : i ≠ nx := fun e => by rw [e, hC.new nx (Nat.le_refl _)] at hv; cases hv
  have hi : upd ρ nx v nx = upd ρ nx v i := by rw [upd_same, upd_ne v hne, hv]
  have ol : ∀ k o, nx ≠ k → foot (upd ρ nx v) k o = foot ρ k o := fun k o hn => foot_eq (upd_ne v (Ne.symm hn))
  have fnx : foot (upd ρ nx v) nx (.row t s n get) = foot ρ i (.row t s n get) := by rw [foot_at hi, foot_eq (upd_ne v hne)]
  have sm : ∀ o b, sub (mvOb i nx o) b = sub o b := fun o b => by cases o <;> rfl
  have ax : Apx (upd ρ nx v) ((nx, .row t s n get) :: mvObs i nx obs) := fun j k o1 o2 b h1 h2 hb => by
    rcases fnd_cons h1 with ⟨rfl, rfl⟩ | ⟨hn1, h1⟩
    · exact hb.elim
    · rcases mvObs_get h1 with ⟨_, rfl⟩ | ⟨q, o', h3, rfl⟩
      · exact hb.elim
      · rw [sm] at hb
        rcases fnd_cons h2 with ⟨rfl, rfl⟩ | ⟨hn2, h2⟩
        · exact ⟨by rw [fnx]; exact (hC.apx j i o' _ b h3 ho hb).1, fun _ z => z⟩
        · rcases mvObs_get h2 with ⟨_, rfl⟩ | ⟨q2, o2', h4, rfl⟩
          · exact ⟨fun z => (by cases z), fun _ z => z⟩
          · rw [foot_mv, ol _ _ hn2, sm]
            exact hC.apx j k o' o2' b h3 h4 hb
  refine ⟨upd ρ nx v, hx, ⟨hC.le, fun k o hk => ?_, fun j k o1 o2 b h1 h2 hne' hmu hf => ?_, fun k hk => ?_, ax⟩⟩
  · rcases fnd_cons hk with ⟨rfl, rfl⟩ | ⟨hn, hk⟩
    · exact ⟨v, upd_same _ _ _, hr⟩
    · rcases mvObs_get hk with ⟨_, rfl⟩ | ⟨_, o', h1, rfl⟩
      · trivial
      · have hs := (hC.sat k o' h1).ext hx
        cases o' with
        | box t l => obtain ⟨b, cs, e, hB, hl, hh⟩ := hs; exact ⟨b, cs, e, hB, hl.mv hi, hh⟩
        | _ => exact hs
  · rcases fnd_cons h1 with ⟨rfl, rfl⟩ | ⟨hn1, h1⟩
    · rcases fnd_cons h2 with ⟨rfl, rfl⟩ | ⟨hn2, h2⟩
      · exact absurd rfl hne'
      · rw [fnx] at hf
        rcases mvObs_get h2 with ⟨_, rfl⟩ | ⟨q, o', h3, rfl⟩
        · intro e; cases e
        · rw [foot_mv, ol _ _ hn2]
          exact hC.apart i k _ o' b ho h3 (Ne.symm q) rfl hf
    · rcases mvObs_get h1 with ⟨_, rfl⟩ | ⟨q, o', h3, rfl⟩
      · cases hf
      · rw [foot_mv, ol _ _ hn1] at hf
        have hmu' : o'.mut = true := by cases o' <;> exact hmu
        rcases fnd_cons h2 with ⟨rfl, rfl⟩ | ⟨hn2, h2⟩
        · rw [fnx]
          exact hC.apart j i o' _ b h3 ho q hmu' hf
        · rcases mvObs_get h2 with ⟨_, rfl⟩ | ⟨q2, o2', h4, rfl⟩
          · intro e; cases e
          · rw [foot_mv, ol _ _ hn2]
            exact hC.apart j k o' o2' b h3 h4 hne' hmu' hf
  · rw [upd_ne v (by omega)]; exact hC.new k (by omega)
def mvsK : List Nat → Obs → Nat → (Obs → Nat → Prop) → Prop
  | [], obs, n, K => K obs n
  | i :: r, obs, n, K => fndK obs i fun o => match o with
    | .row t s m g => mvK i n obs fun obs' => mvsK r ((n, .row t s m g) :: obs') (n + 1) K
    | _ => False
theorem mvsK_spec {B : Nat} {w : World} : ∀ {l : List Nat} {ρ : Rho} {obs : Obs} {n : Nat} {K : Obs → Nat → Prop}, Cls B ρ obs n w → mvsK l obs n K → ∃ ρ' obs' n', Ext ρ ρ' ∧ Cls B ρ' obs' n' w ∧ K obs' n'
  | [], ρ, obs, n, K, hC, h => ⟨ρ, obs, n, fun _ _ q => q, hC, h⟩
  | i :: r, ρ, obs, n, K, hC, h => by
    obtain ⟨o, ho, h⟩ := fndK_spec h
    cases o with
    | row t s m g =>
      obtain ⟨ρ1, hx1, hC1⟩ := hC.mv i ho
      obtain ⟨ρ2, obs2, n2, hx2, hC2, hK⟩ := mvsK_spec (l := r) hC1 (mvK_eq (K := fun obs' => mvsK r ((n, .row t s m g) :: obs') (n + 1) K) h)
      exact ⟨ρ2, obs2, n2, fun i y q => hx2 _ _ (hx1 _ _ q), hC2, hK⟩
    | _ => exact h.elim
theorem NRange.inl {P : Program} {T : TT} (hT : TTok P T) (hm : P.follows .mixedOrders = true) {g : FuncId} {gfn : Func} {c : Code} (hf : P.funcs[g]? = some gfn) (hb : gfn.body = some c) {gsz : Nat} (hs : gfn.ntmps = gsz) (hB : hasBody P g = true)
    {sz : Nat} {fo : Operand} {ps : Array Tmp} {assign body : Code} {env : Env} {obs : Obs} {nx : Nat} {K : Kon} (sl ml : List Nat)
    (h0 : evK env fo fun v => match v with
      | .one (.clo g' caps) => NIs g' g (keepK env sl fun env0 => capE [.one (.ref nx)] caps fun args => match Nat.ble args.length gsz with
        | true => ∀ L : Lc, L = ⟨sz, ps.toList, assign, body⟩ → mvsK ml ((nx, .lp L env0 .ready) :: obs) (nx + 1) fun obs0 nx0 => vc P T gsz (nx + 1) c (argEnv 0 args) obs0 nx0 (fnK T gfn.results.toList fun _ obs1 nx1 => endK nx env K obs1 nx1)
        | false => False)
      | _ => False) : NRange P sz fo ps assign body env obs nx K := by
  refine ⟨fun B s ρ a w n hE hC hW => ?_⟩
  obtain ⟨v, hv, h⟩ := evK_spec hE h0
  clear h0
  split at h
  rotate_left
  · exact h.elim
  rename_i g' caps
  obtain ⟨rfl, h⟩ := h
  obtain ⟨cs, hcs, hg⟩ := hv
  obtain ⟨env0, hle, h⟩ := keepE_spec h
  have hE0 : EnvR sz ρ env0 { tmps := a.tmps, defers := [] } := ⟨hE.size, fun t v ht => by
    obtain ⟨u, hu, hl⟩ := hle.get t v ht
    obtain ⟨x, e, hx⟩ := hE.env t u hu
    have := hl.is_ hx
    rw [renS_nil] at this
    exact ⟨x, e, this⟩⟩
  refine wpIn_rangeFunc ?_
  intro fn hfn
  have hro : Fence.wide.round = none := rfl
  rw [hro]
  obtain ⟨W1, hW1⟩ : ∃ W1, (w.alloc (.deferred (some []))).alloc (.loop { state := .ready, pending := none, fn := fn, tmps := a.tmps, params := ps, assign := assign, body := body, defers := w.heap.size }) = W1 := ⟨_, rfl⟩
  have hsz1 : W1.heap.size = w.heap.size + 2 := by rw [← hW1]; simp
  have hL1 : W1.heap[w.heap.size + 1]? = some (.loop { state := .ready, pending := none, fn := fn, tmps := a.tmps, params := ps, assign := assign, body := body, defers := w.heap.size }) := by
    rw [← hW1]
    have := World.alloc_heap_new (w.alloc (.deferred (some []))) (.loop { state := .ready, pending := none, fn := fn, tmps := a.tmps, params := ps, assign := assign, body := body, defers := w.heap.size })
    rwa [World.size_alloc] at this
  have hK1 : W1.heap[w.heap.size]? = some (.deferred (some [])) := by
    rw [← hW1]; exact (Below.heap_alloc _ _ _ (by simp)).trans (World.alloc_heap_new w _)
  have hb1 : Below w.heap.size w W1 := by
    rw [← hW1]; exact (((Below.refl _ w).alloc (Nat.le_refl _) _).alloc (by simp) _)
  have hx1 : Ext ρ (upd ρ nx (.func (.yield (w.heap.size + 1)) #[] #[])) := ext_upd (hC.new nx (Nat.le_refl _))
  have hone : Svs (upd ρ nx (.func (.yield (w.heap.size + 1)) #[] #[])) [.one (.ref nx)] [.func (.yield (w.heap.size + 1)) #[] #[]] := ⟨_, [], rfl, ⟨upd_same _ _ _, rfl⟩, rfl⟩
  have hcs1 : CapsAre (upd ρ nx (.func (.yield (w.heap.size + 1)) #[] #[])) caps cs := hcs.ext hx1
  obtain ⟨args, h, hsv⟩ := capE_spec hone hcs1 h
  cases hlen : Nat.ble args.length gsz <;> rw [hlen] at h
  · exact h.elim
  have hC1 := hC.more (v := .func (.yield (w.heap.size + 1)) #[] #[]) (o := .lp ⟨sz, ps.toList, assign, body⟩ env0 .ready) hb1 ⟨w.heap.size + 1, fn, a.tmps, w.heap.size, upd_same _ _ _, by have := hC.le; omega, by simpa [Lst.state, Lst.pend] using hL1, hE0.ext hx1⟩
    (fun b hf => by simp only [foot, upd_same] at hf; injection hf with hf; omega)
  have h1 := h _ rfl
  obtain ⟨ρ2, obs2, n2, hx2, hC2, h2⟩ := mvsK_spec hC1 h1
  have hcall := fn_sound_pin (xs := #[.func (.yield (w.heap.size + 1)) #[] #[]] ++ cs.toArray) hT hm hf hb hs hlen h2 hC2 (by simpa using hsv.ext hx2)
  refine ⟨w.heap.size + 1, [{ target := .collected w.heap.size, args := #[] }], W1, { target := .fn (.func g') cs.toArray, args := #[.func (.yield (w.heap.size + 1)) #[] #[]] }, W1, g', #[.func (.yield (w.heap.size + 1)) #[] #[]] ++ cs.toArray, W1, ?_, ?_, fun _ _ => trivial, ?_, fun q => (by cases q), ?_⟩
  · rw [← hW1]; exact run_enterLoop_outer _ _ _ _ _
  · simp only [resolve, hg]
    simp [go_sem]
  · simp [invoke, go_sem, run_enter hB]
  refine callsIn_wide.2 (hcall.mono ?_)
  rintro e w' ⟨ρ', v, obs', nx', x, hR, rfl, _, hC', hb', hx3, ho'⟩
  have hx' : Ext (upd ρ nx (.func (.yield (w.heap.size + 1)) #[] #[])) ρ' := fun i y hi => by
    by_cases q : i < nx + 1
    · exact hx3 i y q (hx2 _ _ hi)
    · rw [upd_ne _ (by omega), hC.new i (by omega)] at hi; cases hi
  obtain ⟨L2, e2, st, hol, hR⟩ := lpK_spec hR
  have hl2 : ρ' nx = some (.func (.yield (w.heap.size + 1)) #[] #[]) := hx' _ _ (upd_same _ _ _)
  obtain ⟨fn2, tmps2, D2, hBl, hh2, _⟩ := hC'.lpset hol hl2
  have hnb : st.state ≠ .busy := by
    intro q
    cases st with
    | ready => cases q
    | busy => exact hR
    | done c => cases q
  refine ⟨st.pend, _, run_endLoop hh2 hnb, ?_⟩
  have hf2 : foot ρ' nx (.lp L2 e2 st) = some (w.heap.size + 1) := by simp [foot, hl2]
  have hC4 := hC'.kill (w' := w'.putObj (w.heap.size + 1) (.loop { state := .exhausted, pending := st.pend, fn := fn2, tmps := tmps2, params := L2.ps.toArray, assign := L2.assign, body := L2.body, defers := D2 })) hol rfl hf2 World.putObj_size (fun k hk => World.putObj_heap_other hk)
  have hB1 : B ≤ w.heap.size := hC.le
  have hW4 : Wy B s ρ' ({ target := .collected w.heap.size, args := #[] } :: a.defers) (w'.putObj (w.heap.size + 1) (.loop { state := .exhausted, pending := st.pend, fn := fn2, tmps := tmps2, params := L2.ps.toArray, assign := L2.assign, body := L2.body, defers := D2 })) := by
    have o1 : Oth W1 (w'.putObj (w.heap.size + 1) (.loop { state := .exhausted, pending := st.pend, fn := fn2, tmps := tmps2, params := L2.ps.toArray, assign := L2.assign, body := L2.body, defers := D2 })) := ho'.trans (put_oth hh2 _)
    have o2 := (oth_of hb1).trans o1
    refine ⟨((hW.b.trans (hb1.mono hB1)).trans hb').trans (put_below (by omega) _), hW.o.trans o2, fun i y hi hy => hx' _ _ (hx1 _ _ (hW.e i y hi hy)), ?_⟩
    obtain ⟨Ds, hd, hn, hD⟩ := hW.m
    refine ⟨w.heap.size :: Ds, by rw [hd]; rfl, List.nodup_cons.2 ⟨fun q => ?_, hn⟩, fun D q => ?_⟩
    · have := (Array.getElem?_eq_some_iff.1 (hD _ q).2.2).1; omega
    · rcases List.mem_cons.1 q with rfl | q
      · exact ⟨hB1, hW.b.size, o1 _ _ hK1⟩
      · exact ⟨(hD _ q).1, (hD _ q).2.1, o2 _ _ (hD _ q).2.2⟩
  have hE4 : EnvR sz ρ' env { a with defers := [{ target := .collected w.heap.size, args := #[] }] ++ a.defers } := ⟨hE.size, ((hE.ext hx1).ext hx').env⟩
  split at hR
  · exact ⟨ρ', env, _, nx', hR, hE4, hC4, hW4⟩
  · exact wpIn_exit ⟨ρ', env, _, nx', hR, hE4, hC4, hW4⟩
  · exact wpIn_ret ⟨ρ', env, _, nx', hR, hE4, hC4, hW4⟩
  · exact hR.elim
end Go.Proofs.YtpanlcnoopmchaaGreat.V

namespace Go.Proofs.YtpanlcnoopmchaaGreat
open Go Go.RowKit V
theorem _root_.Go.Proofs.YtpanlcnoopmchaaGreat.V.NBit.one {x : Int} {K : Int → Prop} (h0 : 0 ≤ x) (h1 : x ≤ 9223372036854775807) (hK : ∀ z, z = x % 2 → K z) : NBit .and .i64 x 1 K := by
  refine ⟨fun z hz => hK z ?_⟩
  have := hz default default
  rw [intBits_and, Sem.run_pure] at this
  injection this with this _
  injection this with _ this
  rw [← this]
  unfold bits
  simp only [BitVec.toNat_and, BitVec.toNat_ofInt, show IntKind.i64.bits = 64 from rfl]
  have e1 : ((1 : Int) % ((2 ^ 64 : Nat) : Int)).toNat = 1 := by decide
  have e2 : (x % ((2 ^ 64 : Nat) : Int)).toNat = x.toNat := by rw [Int.emod_eq_of_lt h0 (by simp; omega)]
  rw [e1, e2, Nat.and_one_is_mod]
  rw [IntWalk.i64_in _ ⟨by omega, by omega⟩]; omega
theorem _root_.Go.Proofs.YtpanlcnoopmchaaGreat.V.NShr.u64 {x y : Int} {K : Int → Prop} (n : Nat) (hy : y = n) (hn : n ≤ 64) (h1 : 0 ≤ x) (hK : ∀ z, z = x / 2 ^ n → 0 ≤ z → z ≤ x → K z) : NShr .u64 x y K := by
  subst hy
  have p : (0 : Int) ≤ 2 ^ n := Int.le_of_lt (Int.pow_pos (by omega))
  refine ⟨by omega, ?_⟩
  rw [Int.toNat_natCast, show IntKind.u64.bits = 64 from rfl, Nat.min_eq_left hn, Int.fdiv_eq_ediv_of_nonneg _ p]
  exact hK _ rfl (Int.ediv_nonneg h1 p) (Int.ediv_le_self _ h1)
theorem v_cisnan (x : Int) : V.Fn Tryz.prog 155 [] [.one (.val (.int .i64 x))] (.bool false) := by
  refine V.Fn.mk_ V.Tok V.mixed Tryz.func155 rfl Tryz.ntmps155 (by kernel_rfl) rfl rfl ?_
  repeat' ((conv => whnf); first | refine V.NCond.mk ?_ | refine V.NPick.l ?_ | refine V.NIf.not_ ?_ | refine V.NIf.dec_ ?_ | refine V.a4 ?_ | refine V.a5 ?_ | refine V.NIf.mk (fun _ => ?_) (fun _ => ?_) | refine V.a7 ?_ | refine V.a8 ?_ | refine V.a9 ?_ | refine V.NBoth.mk ?_ ?_ | refine V.b1 ?_ | refine V.b2 ?_ | refine V.NTF.dec ?_ | refine V.b3 ?_ | refine V.b4 ?_ | (refine V.NDraw.any (by kernel_rfl) ?_) | fail)
  exact ⟨_, rfl, by simp⟩
theorem v_sisnan (x : Int) : V.Fn Tryz.prog 157 [] [.one (.val (.int .i64 x))] (.bool false) := by
  refine V.Fn.mk_ V.Tok V.mixed Tryz.func157 rfl Tryz.ntmps157 (by kernel_rfl) rfl rfl ?_
  repeat' ((conv => whnf); first | refine V.NCond.mk ?_ | refine V.NPick.l ?_ | refine V.NIf.not_ ?_ | refine V.NIf.dec_ ?_ | refine V.a4 ?_ | refine V.a5 ?_ | refine V.NIf.mk (fun _ => ?_) (fun _ => ?_) | refine V.a7 ?_ | refine V.a8 ?_ | refine V.a9 ?_ | refine V.NBoth.mk ?_ ?_ | refine V.b1 ?_ | refine V.b2 ?_ | refine V.NTF.dec ?_ | refine V.b3 ?_ | refine V.b4 ?_ | (refine V.NDraw.any (by kernel_rfl) ?_) | fail)
  exact ⟨_, rfl, by simp⟩
theorem v_cless (x y : Int) : V.Fn Tryz.prog 156 [] [.one (.val (.int .i64 x)), .one (.val (.int .i64 y))] (.bool (decide (x < y))) := by
  refine V.Fn.mk_ V.Tok V.mixed Tryz.func156 rfl Tryz.ntmps156 (by kernel_rfl) rfl rfl ?_
  repeat' ((conv => whnf); first | refine V.NCond.mk ?_ | refine V.NPick.l ?_ | refine V.NIf.not_ ?_ | refine V.NIf.dec_ ?_ | refine V.a4 ?_ | refine V.a5 ?_ | refine V.NIf.mk (fun _ => ?_) (fun _ => ?_) | refine V.a7 ?_ | refine V.a8 ?_ | refine V.a9 ?_ | refine V.NBoth.mk ?_ ?_ | refine V.b1 ?_ | refine V.b2 ?_ | refine V.NTF.dec ?_ | refine V.b3 ?_ | refine V.b4 ?_ | (first | refine V.Fn.k0 (v_cisnan _) rfl ?_ | refine V.Fn.q0 (v_cisnan _) rfl ?_ | refine V.Fn.a0 (v_cisnan _) rfl ?_) | (refine V.NDraw.any (by kernel_rfl) ?_) | fail)
  all_goals (conv => whnf)
  all_goals (first | exact ⟨_, rfl, iff_of_true (by omega) rfl⟩ | (exfalso; omega) | exact ⟨_, rfl, by simp; omega⟩ | exact ⟨_, rfl, by simp⟩)
theorem v_bsearch (l : List Int) (x : Int) (hn : l.length ≤ 1000) (hs : l.Pairwise (· < ·)) : V.Fn Tryz.prog 133 [.arr 1 l.length (ga e1 l)] [.one (.ref 0), .one (.val (.int .i64 x))] (.tuple #[.int .i64 (Ca.lb l x), .bool (decide (x ∈ l))]) := by
  refine V.Fn.mk_ V.Tok V.mixed Tryz.func133 rfl Tryz.ntmps133 (by kernel_rfl) rfl rfl ?_
  repeat' ((conv => whnf); first | refine V.NCond.mk ?_ | refine V.NPick.l ?_ | refine V.NIf.not_ ?_ | refine V.NIf.dec_ ?_ | refine V.a4 ?_ | refine V.a5 ?_ | refine V.NIf.mk (fun _ => ?_) (fun _ => ?_) | refine V.a7 ?_ | refine V.a8 ?_ | refine V.a9 ?_ | refine V.NBoth.mk ?_ ?_ | refine V.b1 ?_ | refine V.b2 ?_ | refine V.NTF.dec ?_ | refine V.b3 ?_ | refine V.b4 ?_ | (refine V.NDraw.any (by kernel_rfl) ?_) | fail)
  refine V.NLoop.auto (fun (s : Nat × Nat) => [(7, .one (.val (.int .i64 s.1))), (8, .one (.val (.int .i64 s.2)))]) (fun (s : Nat × Nat) => []) [] [] (fun (s : Nat × Nat) => s.2 - s.1) (fun (s : Nat × Nat) => s.1 ≤ s.2 ∧ s.2 ≤ l.length ∧ (∀ k, k < s.1 → l.getD k default < x) ∧ (∀ k, s.2 ≤ k → k < l.length → ¬ l.getD k default < x)) (0, l.length) ⟨Nat.zero_le _, Nat.le_refl _, fun k h => absurd h (Nat.not_lt_zero _), fun k h1 h2 => absurd h2 (by dsimp only at h1; omega)⟩ V.S_ V.S_ (fun _ => ⟨rfl, rfl⟩) ?_; (conv => whnf); refine ⟨⟨rfl, rfl⟩, ?_⟩
  rintro s ⟨h1, h2, h3, h4⟩
  generalize s.1 = i at *
  generalize s.2 = j at *
  repeat' ((conv => whnf); first | refine V.NCond.mk ?_ | refine V.NPick.l ?_ | refine V.NIf.not_ ?_ | refine V.NIf.dec_ ?_ | refine V.a4 ?_ | refine V.a5 ?_ | refine V.NIf.mk (fun _ => ?_) (fun _ => ?_) | refine V.a7 ?_ | refine V.a8 ?_ | refine V.a9 ?_ | refine V.NBoth.mk ?_ ?_ | refine V.b1 ?_ | refine V.b2 ?_ | refine V.NTF.dec ?_ | refine V.b3 ?_ | refine V.b4 ?_ | (refine NShr.u64 1 rfl (by omega) (by omega) ?_; intro z hz hz0 hz1) | (refine NIdx.mk ⟨i, rfl, by omega, ?_⟩) | (refine NIdx.mk ⟨(i + j) / 2, by omega, by omega, ?_⟩) | (first | refine V.Fn.k0 (v_cless _ _) rfl ?_ | refine V.Fn.q0 (v_cless _ _) rfl ?_ | refine V.Fn.a0 (v_cless _ _) rfl ?_) | (first | refine V.Fn.k0 (v_sisnan _) rfl ?_ | refine V.Fn.q0 (v_sisnan _) rfl ?_ | refine V.Fn.a0 (v_sisnan _) rfl ?_) | (refine V.NDraw.any (by kernel_rfl) ?_) | fail)
  all_goals (conv => whnf)
  · refine V.NBack.at_ ((i + j) / 2 + 1, j) [] ⟨by dsimp only; omega, h2, fun k hk => ?_, h4⟩ (by dsimp only; omega) V.S_ rfl V.S_ V.S_ V.S_
    by_cases e : k = (i + j) / 2
    · subst e; assumption
    · have := Ca.srt_lt hs (i := k) (j := (i + j) / 2) (by dsimp only at hk; omega) (by omega); omega
  · refine V.NBack.at_ (i, (i + j) / 2) [] ⟨by dsimp only; omega, by dsimp only; omega, h3, fun k h5 h6 => ?_⟩ (by dsimp only; omega) V.S_ rfl V.S_ V.S_ V.S_
    by_cases e : k = (i + j) / 2
    · subst e; assumption
    · have := Ca.srt_lt hs (i := (i + j) / 2) (j := k) (by dsimp only at h5; omega) h6; omega
  all_goals
    obtain rfl : i = j := by omega
    have e1 := Ca.lb_is h2 h3 h4
    have e2 := Ca.found_is h3 h4 hs
    rw [e1]
    first
      | exact ⟨rfl, congrArg Value.bool (decide_eq_true (e2.2 ⟨by omega, by assumption⟩)).symm, trivial⟩
      | exact ⟨rfl, congrArg Value.bool (decide_eq_false (fun q => by have := e2.1 q; omega)).symm, trivial⟩
theorem v_caopen (c : Cl) (n : Int) (h : Ca.Ok c) (hn : Ca.Day n) : V.Fn Tryz.prog 98 [.arr 1 c.hs.length (ga e1 c.hs)] [.agg [.val (.int .i64 c.we), .ref 0], .one (.val (.int .i64 n))] (.bool (decide (Ca.op c n = 1))) := by
  obtain ⟨h1, h2, h3, h4⟩ := h
  have w01 := Ca.wd_01 c n
  have o1 : n ∈ c.hs → Ca.op c n = 0 := fun q => if_pos q
  have o2 : ¬ n ∈ c.hs → Ca.op c n = Ca.wd c n := fun q => if_neg q
  have ew : Ca.wd c n = 1 - c.we / 2 ^ (n % 7).toNat % 2 := rfl
  unfold Ca.Day at hn
  refine V.Fn.mk_ V.Tok V.mixed Tryz.func98 rfl Tryz.ntmps98 (by kernel_rfl) rfl rfl ?_
  repeat' ((conv => whnf); first | refine V.NCond.mk ?_ | refine V.NPick.l ?_ | refine V.NIf.not_ ?_ | refine V.NIf.dec_ ?_ | refine V.a4 ?_ | refine V.a5 ?_ | refine V.NIf.mk (fun _ => ?_) (fun _ => ?_) | refine V.a7 ?_ | refine V.a8 ?_ | refine V.a9 ?_ | refine V.NBoth.mk ?_ ?_ | refine V.b1 ?_ | refine V.b2 ?_ | refine V.NTF.dec ?_ | refine V.b3 ?_ | refine V.b4 ?_ | ((first | refine V.Fn.k (v_bsearch c.hs n (by omega) h4) [0] rfl ?_ ?_ | refine V.Fn.q (v_bsearch c.hs n (by omega) h4) [0] rfl ?_ ?_ | refine V.Fn.a (v_bsearch c.hs n (by omega) h4) [0] rfl ?_ ?_); · exact V.D_) | (refine NRem.pos (by omega) (by omega) ?_; intro r hr hr0 hr1) | (refine NShr.i64 (n % 7).toNat (by omega) (by omega) (by omega) ?_; intro s hs hs0 hs1) | (refine NBit.one (by omega) (by omega) ?_; intro b hb) | (refine V.NDraw.any (by kernel_rfl) ?_) | fail)
  all_goals (conv => whnf)
  · exact congrArg Value.bool (decide_eq_false (by rw [o1 (by assumption)]; decide)).symm
  · have e := o2 (by assumption)
    exact ⟨_, rfl, by rw [decide_eq_true_eq, e, ew, ← hs]; omega⟩
theorem v_caCheck (c : Cl) (hn : c.hs.length ≤ 9223372036854775807) : V.Fn Tryz.prog 56 [.arr 1 c.hs.length (ga e1 c.hs)] [.agg [.val (.int .i64 c.we), .ref 0]] (.int .i64 (Ca.chk c)) := by
  have c1 := @Ca.chk_1 c
  have c2 := @Ca.chk_2 c
  have c3 := @Ca.chk_3 c
  refine V.Fn.mk_ V.Tok V.mixed Tryz.func56 rfl Tryz.ntmps56 (by kernel_rfl) rfl rfl ?_
  repeat' ((conv => whnf); first | refine V.NCond.mk ?_ | refine V.NPick.l ?_ | refine V.NIf.not_ ?_ | refine V.NIf.dec_ ?_ | refine V.a4 ?_ | refine V.a5 ?_ | refine V.NIf.mk (fun _ => ?_) (fun _ => ?_) | refine V.a7 ?_ | refine V.a8 ?_ | refine V.a9 ?_ | refine V.NBoth.mk ?_ ?_ | refine V.b1 ?_ | refine V.b2 ?_ | refine V.NTF.dec ?_ | refine V.b3 ?_ | refine V.b4 ?_ | (refine V.NDraw.any (by kernel_rfl) ?_) | fail)
  all_goals (conv => whnf)
  · exact V.fin1 (c1 (by omega))
  · exact V.fin1 (c1 (by omega))
  · exact V.fin1 (c2 (by omega) (by omega))
  have e := c3 (by omega) (by omega)
  refine V.NLoop.auto (fun (k : Nat) => [(23, .one (.val (.int .i64 k))), (3, .one (.val (.int .i64 (if k = 0 then -1 else c.hs.getD (k - 1) default))))]) (fun (k : Nat) => []) [] [] (fun (k : Nat) => c.hs.length - k) (fun (k : Nat) => k ≤ c.hs.length ∧ ∀ j, j < k → Ca.eAt c.hs j = 0) 0 ⟨Nat.zero_le _, fun j h => absurd h (Nat.not_lt_zero _)⟩ V.S_ V.S_ (fun _ => ⟨rfl, rfl⟩) ?_; (conv => whnf); refine ⟨⟨rfl, rfl⟩, ?_⟩
  rintro k ⟨hk, hJ⟩
  obtain ⟨a1, a2, a3, a4⟩ := Ca.eAt_cases (hs := c.hs) (k := k) rfl rfl
  have d := Ca.dchk (c.hs.getD k default)
  unfold Ca.Day at d a1 a2 a3 a4
  have ge : ∀ v, v ≠ 0 → k < c.hs.length → Ca.eAt c.hs k = v → Ca.chk c = v := fun v h1 h2 h3 => e.trans ((Ca.fe_get h2 hJ (by omega)).trans h3)
  repeat' ((conv => whnf); first | refine V.NCond.mk ?_ | refine V.NPick.l ?_ | refine V.NIf.not_ ?_ | refine V.NIf.dec_ ?_ | refine V.a4 ?_ | refine V.a5 ?_ | refine V.NIf.mk (fun _ => ?_) (fun _ => ?_) | refine V.a7 ?_ | refine V.a8 ?_ | refine V.a9 ?_ | refine V.NBoth.mk ?_ ?_ | refine V.b1 ?_ | refine V.b2 ?_ | refine V.NTF.dec ?_ | refine V.b3 ?_ | refine V.b4 ?_ | (refine NIdx.mk ⟨k, rfl, by omega, ?_⟩) | (first | refine V.Fn.k0 (v_dcheck _) rfl ?_ | refine V.Fn.q0 (v_dcheck _) rfl ?_ | refine V.Fn.a0 (v_dcheck _) rfl ?_) | (refine V.NDraw.any (by kernel_rfl) ?_) | fail)
  all_goals (conv => whnf)
  · exact V.fin1 (ge 6 (by decide) (by omega) (a2 (by omega) (by assumption)))
  · exact V.fin1 (ge 4 (by decide) (by omega) (a3 (by omega) (by assumption) (by assumption)))
  · refine V.NBack.at_ (k + 1) [] ⟨by omega, fun j hj => ?_⟩ (by omega) ⟨V.S_, congrArg (fun z => V.SV.one (V.At.val (Value.int .i64 z))) (if_neg (by omega)).symm, trivial⟩ rfl V.S_ V.S_ V.S_
    by_cases q : j = k
    · subst q; exact a4 (by omega) (by assumption) (by assumption)
    · exact hJ j (by omega)
  · exact V.fin1 (ge 3 (by decide) (by omega) (a1 (by omega)))
  · obtain rfl : k = c.hs.length := by omega
    exact V.fin1 (e.trans (Ca.fe_end hJ))
theorem v_rcaCheck (c : Cl) (hn : c.hs.length ≤ 9223372036854775807) : V.Fn Tryz.prog 58 [.arr 1 c.hs.length (ga e1 c.hs)] [.agg [.val (.int .i64 c.we), .ref 0]] (.int .i64 (Ca.chk c)) := by
  have c1 := @Ca.chk_1 c
  have c2 := @Ca.chk_2 c
  have c3 := @Ca.chk_3 c
  refine V.Fn.mk_ V.Tok V.mixed Tryz.func58 rfl Tryz.ntmps58 (by kernel_rfl) rfl rfl ?_
  repeat' ((conv => whnf); first | refine V.NCond.mk ?_ | refine V.NPick.l ?_ | refine V.NIf.not_ ?_ | refine V.NIf.dec_ ?_ | refine V.a4 ?_ | refine V.a5 ?_ | refine V.NIf.mk (fun _ => ?_) (fun _ => ?_) | refine V.a7 ?_ | refine V.a8 ?_ | refine V.a9 ?_ | refine V.NBoth.mk ?_ ?_ | refine V.b1 ?_ | refine V.b2 ?_ | refine V.NTF.dec ?_ | refine V.b3 ?_ | refine V.b4 ?_ | (first | refine V.Fn.k0 (v_rbetween _ _ _) rfl ?_ | refine V.Fn.q0 (v_rbetween _ _ _) rfl ?_ | refine V.Fn.a0 (v_rbetween _ _ _) rfl ?_) | (refine V.NDraw.any (by kernel_rfl) ?_) | fail)
  all_goals (conv => whnf)
  · exact V.fin1 (c2 (by omega) (by omega))
  rotate_left
  · exact V.fin1 (c1 (by omega))
  have e := c3 (by omega) (by omega)
  refine V.NLoop.auto (fun (k : Nat) => [(3, .one (.val (.int .i64 k)))]) (fun (k : Nat) => []) [] [] (fun (k : Nat) => c.hs.length - k) (fun (k : Nat) => k ≤ c.hs.length ∧ ∀ j, j < k → Ca.eAt c.hs j = 0) 0 ⟨Nat.zero_le _, fun j h => absurd h (Nat.not_lt_zero _)⟩ V.S_ V.S_ (fun _ => ⟨rfl, rfl⟩) ?_; (conv => whnf); refine ⟨⟨rfl, rfl⟩, ?_⟩
  rintro k ⟨hk, hJ⟩
  have ge : ∀ v, v ≠ 0 → k < c.hs.length → Ca.eAt c.hs k = v → Ca.chk c = v := fun v h1 h2 h3 => e.trans ((Ca.fe_get h2 hJ (by omega)).trans h3)
  have ev : Ca.eAt c.hs k = if ¬ Ca.Day (c.hs.getD k default) then 3 else if 0 < k ∧ c.hs.getD k default = c.hs.getD (k - 1) default then 6 else if 0 < k ∧ c.hs.getD k default < c.hs.getD (k - 1) default then 4 else 0 := rfl
  have dd : Ca.Day (c.hs.getD k default) ↔ (0 ≤ c.hs.getD k default ∧ c.hs.getD k default ≤ 3652058) := Iff.rfl
  have on : k < c.hs.length → Ca.eAt c.hs k = 0 → ∀ j, j < k + 1 → Ca.eAt c.hs j = 0 := fun _ q j hj => by
    by_cases z : j = k
    · subst z; exact q
    · exact hJ j (by omega)
  repeat' ((conv => whnf); first | refine V.NCond.mk ?_ | refine V.NPick.l ?_ | refine V.NIf.not_ ?_ | refine V.NIf.dec_ ?_ | refine V.a4 ?_ | refine V.a5 ?_ | refine V.NIf.mk (fun _ => ?_) (fun _ => ?_) | refine V.a7 ?_ | refine V.a8 ?_ | refine V.a9 ?_ | refine V.NBoth.mk ?_ ?_ | refine V.b1 ?_ | refine V.b2 ?_ | refine V.NTF.dec ?_ | refine V.b3 ?_ | refine V.b4 ?_ | (refine NIdx.mk ⟨k, rfl, by omega, ?_⟩) | (refine NIdx.mk ⟨k - 1, by omega, by omega, ?_⟩) | (first | refine V.Fn.k0 (v_rbetween _ _ _) rfl ?_ | refine V.Fn.q0 (v_rbetween _ _ _) rfl ?_ | refine V.Fn.a0 (v_rbetween _ _ _) rfl ?_) | (refine V.NDraw.any (by kernel_rfl) ?_) | fail)
  all_goals (conv => whnf)
  · exact V.fin1 (ge 6 (by decide) (by omega) (by rw [ev, if_neg (fun z => z (dd.2 (by assumption))), if_pos ⟨by omega, by assumption⟩]))
  · exact V.fin1 (ge 4 (by decide) (by omega) (by rw [ev, if_neg (fun z => z (dd.2 (by assumption))), if_neg (by omega), if_pos ⟨by omega, by assumption⟩]))
  · exact V.NBack.at_ (k + 1) [] ⟨by omega, on (by omega) (by rw [ev, if_neg (fun z => z (dd.2 (by assumption))), if_neg (by omega), if_neg (by omega)])⟩ (by omega) V.S_ rfl V.S_ V.S_ V.S_
  · exact V.NBack.at_ (k + 1) [] ⟨by omega, on (by omega) (by rw [ev, if_neg (fun z => z (dd.2 (by assumption))), if_neg (by omega), if_neg (by omega)])⟩ (by omega) V.S_ rfl V.S_ V.S_ V.S_
  · exact V.fin1 (ge 3 (by decide) (by omega) (by rw [ev, if_pos (fun z => absurd (dd.1 z) (by assumption))]))
  · obtain rfl : k = c.hs.length := by omega
    exact V.fin1 (e.trans (Ca.fe_end hJ))
theorem v_caChecks (c : Cl) (ds : List Int) (hn : c.hs.length ≤ 9223372036854775807) (hd : ds.length ≤ 1000) : V.Fn Tryz.prog 97 [.arr 1 c.hs.length (ga e1 c.hs), .arr 1 ds.length (ga e1 ds)] [.agg [.val (.int .i64 c.we), .ref 0], .one (.ref 1)] (.int .i64 (Ca.chks c ds)) := by
  have c1 := @Ca.chks_1 c ds
  have c2 := @Ca.chks_2 c ds
  refine V.Fn.mk_ V.Tok V.mixed Tryz.func97 rfl Tryz.ntmps97 (by kernel_rfl) rfl rfl ?_
  repeat' ((conv => whnf); first | refine V.NCond.mk ?_ | refine V.NPick.l ?_ | refine V.NIf.not_ ?_ | refine V.NIf.dec_ ?_ | refine V.a4 ?_ | refine V.a5 ?_ | refine V.NIf.mk (fun _ => ?_) (fun _ => ?_) | refine V.a7 ?_ | refine V.a8 ?_ | refine V.a9 ?_ | refine V.NBoth.mk ?_ ?_ | refine V.b1 ?_ | refine V.b2 ?_ | refine V.NTF.dec ?_ | refine V.b3 ?_ | refine V.b4 ?_ | ((first | refine V.Fn.k (v_caCheck c hn) [0] rfl ?_ ?_ | refine V.Fn.q (v_caCheck c hn) [0] rfl ?_ ?_ | refine V.Fn.a (v_caCheck c hn) [0] rfl ?_ ?_); · exact V.D_) | (refine V.NDraw.any (by kernel_rfl) ?_) | fail)
  all_goals (conv => whnf)
  rotate_left
  · exact V.fin1 (c1 (by assumption))
  have e := c2 (by assumption)
  refine V.NLoop.auto (fun (k : Nat) => [(16, .one (.val (.int .i64 k)))]) (fun (k : Nat) => []) [] [] (fun (k : Nat) => ds.length - k) (fun (k : Nat) => k ≤ ds.length ∧ ∀ d ∈ ds.take k, D.chk d = 0) 0 ⟨Nat.zero_le _, by simp⟩ V.S_ V.S_ (fun _ => ⟨rfl, rfl⟩) ?_; (conv => whnf); refine ⟨⟨rfl, rfl⟩, ?_⟩
  rintro k ⟨hk, hJ⟩
  repeat' ((conv => whnf); first | refine V.NCond.mk ?_ | refine V.NPick.l ?_ | refine V.NIf.not_ ?_ | refine V.NIf.dec_ ?_ | refine V.a4 ?_ | refine V.a5 ?_ | refine V.NIf.mk (fun _ => ?_) (fun _ => ?_) | refine V.a7 ?_ | refine V.a8 ?_ | refine V.a9 ?_ | refine V.NBoth.mk ?_ ?_ | refine V.b1 ?_ | refine V.b2 ?_ | refine V.NTF.dec ?_ | refine V.b3 ?_ | refine V.b4 ?_ | (refine NIdx.mk ⟨k, rfl, by omega, ?_⟩) | (first | refine V.Fn.k0 (v_dcheck _) rfl ?_ | refine V.Fn.q0 (v_dcheck _) rfl ?_ | refine V.Fn.a0 (v_dcheck _) rfl ?_) | (refine V.NDraw.any (by kernel_rfl) ?_) | fail)
  all_goals (conv => whnf)
  · exact V.NBack.at_ (k + 1) [] ⟨by omega, all_snoc (by omega) hJ (by assumption)⟩ (by omega) V.S_ rfl V.S_ V.S_ V.S_
  · exact V.fin1 (e.trans (fb_get (by omega) hJ (by assumption)))
  · exact V.fin1 (e.trans (fb_end (by omega) hJ))
theorem v_caIs (c : Cl) (n : Int) (hn : c.hs.length ≤ 9223372036854775807) : V.Fn Tryz.prog 40 [.arr 1 c.hs.length (ga e1 c.hs)] [.agg [.val (.int .i64 c.we), .ref 0], .one (.val (.int .i64 n))] (.tuple #[.bool (Ca.isV c n), .int .i64 (Ca.e1 c n)]) := by
  have vo := fun h : Ca.e1 c n = 0 => v_caopen c n (Ca.e1_ok h).1 (Ca.e1_ok h).2.1
  have ck := v_caChecks c [n] hn (by simp)
  rw [show Ca.chks c [n] = Ca.e1 c n from rfl] at ck
  refine V.Fn.mk_ V.Tok V.mixed Tryz.func40 rfl Tryz.ntmps40 (by kernel_rfl) rfl rfl ?_
  repeat' ((conv => whnf); first | refine V.NCond.mk ?_ | refine V.NPick.l ?_ | refine V.NIf.not_ ?_ | refine V.NIf.dec_ ?_ | refine V.a4 ?_ | refine V.a5 ?_ | refine V.NIf.mk (fun _ => ?_) (fun _ => ?_) | refine V.a7 ?_ | refine V.a8 ?_ | refine V.a9 ?_ | refine V.NBoth.mk ?_ ?_ | refine V.b1 ?_ | refine V.b2 ?_ | refine V.NTF.dec ?_ | refine V.b3 ?_ | refine V.b4 ?_ | ((first | refine V.Fn.k (ck) [0, 2] rfl ?_ ?_ | refine V.Fn.q (ck) [0, 2] rfl ?_ ?_ | refine V.Fn.a (ck) [0, 2] rfl ?_ ?_); · exact V.D_) | ((first | refine V.Fn.k (vo (by assumption)) [0] rfl ?_ ?_ | refine V.Fn.q (vo (by assumption)) [0] rfl ?_ ?_ | refine V.Fn.a (vo (by assumption)) [0] rfl ?_ ?_); · exact V.D_) | (refine V.NDraw.any (by kernel_rfl) ?_) | fail)
  all_goals (conv => whnf)
  · exact ⟨congrArg Value.bool (decide_eq_decide.2 ⟨fun q => ⟨by assumption, q⟩, fun q => q.2⟩), V.fin1 (by assumption), trivial⟩
  · exact ⟨congrArg Value.bool (decide_eq_false fun q => absurd q.1 (by assumption)).symm, rfl, trivial⟩
theorem v_told (n : Int) : V.Fn Tryz.prog 102 [] [.one (.val (.int .i64 n))] (.tuple #[.int .i64 (Ca.toV n), .int .i64 (Ca.toE n)]) := by
  refine V.Fn.mk_ V.Tok V.mixed Tryz.func102 rfl Tryz.ntmps102 (by kernel_rfl) rfl rfl ?_
  repeat' ((conv => whnf); first | refine V.NCond.mk ?_ | refine V.NPick.l ?_ | refine V.NIf.not_ ?_ | refine V.NIf.dec_ ?_ | refine V.a4 ?_ | refine V.a5 ?_ | refine V.NIf.mk (fun _ => ?_) (fun _ => ?_) | refine V.a7 ?_ | refine V.a8 ?_ | refine V.a9 ?_ | refine V.NBoth.mk ?_ ?_ | refine V.b1 ?_ | refine V.b2 ?_ | refine V.NTF.dec ?_ | refine V.b3 ?_ | refine V.b4 ?_ | (refine V.NDraw.any (by kernel_rfl) ?_) | fail)
  all_goals (conv => whnf)
  · exact V.fin2 ⟨if_pos (by assumption), if_pos (by assumption)⟩
  · exact V.fin2 ⟨if_neg (by assumption), if_neg (by assumption)⟩
theorem v_business (c : Cl) (n : Int) (h : Ca.Ok c) : V.Fn Tryz.prog 46 [.arr 1 c.hs.length (ga e1 c.hs)] [.agg [.val (.int .i64 c.we), .ref 0], .one (.val (.int .i64 n))] (.bool (decide (Ca.Day n ∧ Ca.op c n = 1))) := by
  obtain ⟨h1, h2, h3, h4⟩ := h
  have w01 := Ca.wd_01 c n
  have o1 : n ∈ c.hs → Ca.op c n = 0 := fun q => if_pos q
  have o2 : ¬ n ∈ c.hs → Ca.op c n = Ca.wd c n := fun q => if_neg q
  have ew : Ca.wd c n = 1 - c.we / 2 ^ (n % 7).toNat % 2 := rfl
  have dd : Ca.Day n ↔ (0 ≤ n ∧ n ≤ 3652058) := Iff.rfl
  refine V.Fn.mk_ V.Tok V.mixed Tryz.func46 rfl Tryz.ntmps46 (by kernel_rfl) rfl rfl ?_
  repeat' ((conv => whnf); first | refine V.NCond.mk ?_ | refine V.NPick.l ?_ | refine V.NIf.not_ ?_ | refine V.NIf.dec_ ?_ | refine V.a4 ?_ | refine V.a5 ?_ | refine V.NIf.mk (fun _ => ?_) (fun _ => ?_) | refine V.a7 ?_ | refine V.a8 ?_ | refine V.a9 ?_ | refine V.NBoth.mk ?_ ?_ | refine V.b1 ?_ | refine V.b2 ?_ | refine V.NTF.dec ?_ | refine V.b3 ?_ | refine V.b4 ?_ | (refine V.NDraw.any (by kernel_rfl) ?_) | fail)
  all_goals (conv => whnf)
  · exact congrArg Value.bool (decide_eq_false (fun q => by have := dd.1 q.1; omega)).symm
  · exact congrArg Value.bool (decide_eq_false (fun q => by have := dd.1 q.1; omega)).symm
  refine V.NLoop.auto (fun (k : Nat) => [(5, .one (.val (.int .i64 k)))]) (fun (k : Nat) => []) [] [] (fun (k : Nat) => c.hs.length - k) (fun (k : Nat) => k ≤ c.hs.length ∧ ∀ d ∈ c.hs.take k, ¬ d = n) 0 ⟨Nat.zero_le _, by simp⟩ V.S_ V.S_ (fun _ => ⟨rfl, rfl⟩) ?_; (conv => whnf); refine ⟨⟨rfl, rfl⟩, ?_⟩
  rintro k ⟨hk, hJ⟩
  repeat' ((conv => whnf); first | refine V.NCond.mk ?_ | refine V.NPick.l ?_ | refine V.NIf.not_ ?_ | refine V.NIf.dec_ ?_ | refine V.a4 ?_ | refine V.a5 ?_ | refine V.NIf.mk (fun _ => ?_) (fun _ => ?_) | refine V.a7 ?_ | refine V.a8 ?_ | refine V.a9 ?_ | refine V.NBoth.mk ?_ ?_ | refine V.b1 ?_ | refine V.b2 ?_ | refine V.NTF.dec ?_ | refine V.b3 ?_ | refine V.b4 ?_ | (refine NIdx.mk ⟨k, rfl, by omega, ?_⟩) | (refine V.NDraw.any (by kernel_rfl) ?_) | fail)
  all_goals (conv => whnf)
  · have hm : n ∈ c.hs := by have q : c.hs.getD k default = n := by assumption
                             rw [← q]; exact getD_mem (by omega)
    exact congrArg Value.bool (decide_eq_false (fun q => by rw [o1 hm] at q; omega)).symm
  · exact V.NBack.at_ (k + 1) [] ⟨by omega, all_snoc (by omega) hJ (by assumption)⟩ (by omega) V.S_ rfl V.S_ V.S_ V.S_
  have e := o2 fun q => all_whole (k := k) (by omega) hJ n q rfl
  have pw : ∀ i : Nat, (2 : Int) ^ (i + 1) = 2 ^ i * 2 := fun i => Int.pow_succ 2 i
  have p0 : ∀ i : Nat, (0 : Int) < 2 ^ i := fun i => Int.pow_pos (by omega)
  refine V.NLoop.auto (fun (i : Nat) => [(7, .one (.val (.int .i64 i))), (6, .one (.val (.int .i64 (c.we / 2 ^ i))))]) (fun (i : Nat) => []) [] [] (fun (i : Nat) => 7 - i) (fun (i : Nat) => (i : Int) ≤ n % 7) 0 (by omega) (by (conv => whnf); exact ⟨V.S_, congrArg (fun z => V.SV.one (V.At.val (Value.int .i64 z))) (show c.we = c.we / 2 ^ 0 by simp), trivial⟩) V.S_ (fun _ => ⟨rfl, rfl⟩) ?_; (conv => whnf); refine ⟨⟨rfl, rfl⟩, ?_⟩
  rintro i hi
  have dv : c.we / 2 ^ (i + 1) = c.we / 2 ^ i / 2 := by rw [pw, Int.ediv_ediv_of_nonneg (Int.le_of_lt (p0 i))]
  have dn : 0 ≤ c.we / 2 ^ i ∧ c.we / 2 ^ i ≤ c.we := ⟨Int.ediv_nonneg h1.1 (Int.le_of_lt (p0 i)), Int.ediv_le_self _ h1.1⟩
  repeat' ((conv => whnf); first | refine V.NCond.mk ?_ | refine V.NPick.l ?_ | refine V.NIf.not_ ?_ | refine V.NIf.dec_ ?_ | refine V.a4 ?_ | refine V.a5 ?_ | refine V.NIf.mk (fun _ => ?_) (fun _ => ?_) | refine V.a7 ?_ | refine V.a8 ?_ | refine V.a9 ?_ | refine V.NBoth.mk ?_ ?_ | refine V.b1 ?_ | refine V.b2 ?_ | refine V.NTF.dec ?_ | refine V.b3 ?_ | refine V.b4 ?_ | (refine NRem.pos (y := 7) (by omega) (by omega) ?_; intro r hr hr0 hr1) | (refine NQuo.pos (by omega) (by omega) (by omega) ?_; intro z hz hz0 hz1) | (refine NRem.pos (y := 2) (by omega) (by omega) ?_; intro r2 hr2 hr20 hr21) | (refine V.NDraw.any (by kernel_rfl) ?_) | fail)
  all_goals (conv => whnf)
  · exact V.NBack.at_ (i + 1) [] (by omega) (by omega) ⟨V.S_, congrArg (fun z => V.SV.one (V.At.val (Value.int .i64 z))) (hz.trans dv.symm), trivial⟩ rfl V.S_ V.S_ V.S_
  · have hi' : (n % 7).toNat = i := by omega
    rw [hi'] at ew
    exact ⟨_, rfl, by rw [decide_eq_true_eq, e, ew]; exact ⟨fun q => ⟨dd.2 (by omega), by omega⟩, fun q => by omega⟩⟩
set_option maxHeartbeats 4000000 in
theorem v_nthU (c : Cl) (n many : Int) (h : Ca.Ok c) (hn : 0 ≤ n ∧ n ≤ 3652059) (hm : 1 ≤ many ∧ many ≤ 1000) : V.Fn Tryz.prog 144 [.arr 1 c.hs.length (ga e1 c.hs)] [.agg [.val (.int .i64 c.we), .ref 0], .one (.val (.int .i64 n)), .one (.val (.int .i64 1)), .one (.val (.int .i64 many))] (.int .i64 (Ca.stU c (n - 1) many)) := by
  refine V.Fn.mk_ V.Tok V.mixed Tryz.func144 rfl Tryz.ntmps144 (by kernel_rfl) rfl rfl ?_
  repeat' ((conv => whnf); first | refine V.NCond.mk ?_ | refine V.NPick.l ?_ | refine V.NIf.not_ ?_ | refine V.NIf.dec_ ?_ | refine V.a4 ?_ | refine V.a5 ?_ | refine V.NIf.mk (fun _ => ?_) (fun _ => ?_) | refine V.a7 ?_ | refine V.a8 ?_ | refine V.a9 ?_ | refine V.NBoth.mk ?_ ?_ | refine V.b1 ?_ | refine V.b2 ?_ | refine V.NTF.dec ?_ | refine V.b3 ?_ | refine V.b4 ?_ | (refine V.NCall.inl (f := 162) V.Tok V.mixed Tryz.func162 rfl Tryz.ntmps162 (by kernel_rfl) rfl ?_) | (refine V.NRange.inl V.Tok V.mixed Tryz.func169 rfl Tryz.ntmps169 (by kernel_rfl) [7, 8] [] ?_; (conv => whnf); refine V.NIs.mk rfl ?_; (conv => whnf); intro L hL) | (refine V.NDraw.any (by kernel_rfl) ?_) | fail)
  all_goals (conv => whnf)
  refine V.NLoop.auto (fun (i : Int) => []) (fun (i : Int) => [(5, .box 3 [.val (.int .i64 i)]), (2, .box 3 [.val (.int .i64 (many - Ca.cnt c (n - 1) (i - 1)))])]) [] [] (fun (i : Int) => (3652059 - i).toNat) (fun (i : Int) => n ≤ i ∧ i ≤ 3652059 ∧ Ca.cnt c (n - 1) (i - 1) < many) n ⟨Int.le_refl _, hn.2, by rw [Ca.cnt_none (Int.le_refl _)]; omega⟩ V.S_ (by (conv => whnf); exact ⟨rfl, congrArg (fun z => V.Ob.box _ [V.At.val (Value.int .i64 z)]) (by rw [Ca.cnt_none (Int.le_refl _)]; omega), trivial⟩) (fun _ => ⟨rfl, rfl⟩) ?_; (conv => whnf); refine ⟨⟨rfl, rfl⟩, ?_⟩
  rintro i ⟨h1, h2, h3⟩
  have cs := Ca.cnt_last (c := c) (a := n - 1) (b := i) (by omega)
  have c0 := (Ca.cnt_bd c (n - 1) (i - 1)).1
  have vo := fun q => v_caopen c i h q
  repeat' ((conv => whnf); first | refine V.NCond.mk ?_ | refine V.NPick.l ?_ | refine V.NIf.not_ ?_ | refine V.NIf.dec_ ?_ | refine V.a4 ?_ | refine V.a5 ?_ | refine V.NIf.mk (fun _ => ?_) (fun _ => ?_) | refine V.a7 ?_ | refine V.a8 ?_ | refine V.a9 ?_ | refine V.NBoth.mk ?_ ?_ | refine V.b1 ?_ | refine V.b2 ?_ | refine V.NTF.dec ?_ | refine V.b3 ?_ | refine V.b4 ?_ | ((first | refine V.Fn.k (vo ⟨by omega, by omega⟩) [0] rfl ?_ ?_ | refine V.Fn.q (vo ⟨by omega, by omega⟩) [0] rfl ?_ ?_ | refine V.Fn.a (vo ⟨by omega, by omega⟩) [0] rfl ?_ ?_); · exact V.D_) | (refine V.NYield.mk_ V.Tok V.mixed hL rfl rfl ?_) | (refine V.NDraw.any (by kernel_rfl) ?_) | fail)
  all_goals (conv => whnf)
  · exact V.fin1 (Ca.stU_is ⟨by omega, by omega, by assumption, by omega⟩)
  · refine V.NBack.at_ (i + 1) [] ⟨by omega, by omega, by rw [show i + 1 - 1 = i by omega]; omega⟩ (by omega) V.S_ rfl ⟨rfl, congrArg (fun z => V.Ob.box _ [V.At.val (Value.int .i64 z)]) (by rw [show i + 1 - 1 = i by omega]; omega), trivial⟩ V.S_ V.S_
  · have := Ca.op_01 c i
    refine V.NBack.at_ (i + 1) [] ⟨by omega, by omega, by rw [show i + 1 - 1 = i by omega]; omega⟩ (by omega) V.S_ rfl ⟨rfl, congrArg (fun z => V.Ob.box _ [V.At.val (Value.int .i64 z)]) (by rw [show i + 1 - 1 = i by omega]; omega), trivial⟩ V.S_ V.S_
  · have e : i - 1 = 3652058 := by omega
    rw [e] at h3
    exact V.fin1 (Ca.stU_no h3)
set_option maxHeartbeats 4000000 in
theorem v_nthD (c : Cl) (n many : Int) (h : Ca.Ok c) (hn : -1 ≤ n ∧ n ≤ 3652058) (hm : 1 ≤ many ∧ many ≤ 1000) : V.Fn Tryz.prog 144 [.arr 1 c.hs.length (ga e1 c.hs)] [.agg [.val (.int .i64 c.we), .ref 0], .one (.val (.int .i64 n)), .one (.val (.int .i64 (-1))), .one (.val (.int .i64 many))] (.int .i64 (Ca.stD c (n + 1) many)) := by
  refine V.Fn.mk_ V.Tok V.mixed Tryz.func144 rfl Tryz.ntmps144 (by kernel_rfl) rfl rfl ?_
  repeat' ((conv => whnf); first | refine V.NCond.mk ?_ | refine V.NPick.l ?_ | refine V.NIf.not_ ?_ | refine V.NIf.dec_ ?_ | refine V.a4 ?_ | refine V.a5 ?_ | refine V.NIf.mk (fun _ => ?_) (fun _ => ?_) | refine V.a7 ?_ | refine V.a8 ?_ | refine V.a9 ?_ | refine V.NBoth.mk ?_ ?_ | refine V.b1 ?_ | refine V.b2 ?_ | refine V.NTF.dec ?_ | refine V.b3 ?_ | refine V.b4 ?_ | (refine V.NCall.inl (f := 162) V.Tok V.mixed Tryz.func162 rfl Tryz.ntmps162 (by kernel_rfl) rfl ?_) | (refine V.NRange.inl V.Tok V.mixed Tryz.func169 rfl Tryz.ntmps169 (by kernel_rfl) [7, 8] [] ?_; (conv => whnf); refine V.NIs.mk rfl ?_; (conv => whnf); intro L hL) | (refine V.NDraw.any (by kernel_rfl) ?_) | fail)
  all_goals (conv => whnf)
  refine V.NLoop.auto (fun (i : Int) => []) (fun (i : Int) => [(5, .box 3 [.val (.int .i64 i)]), (2, .box 3 [.val (.int .i64 (many - Ca.cnt c i n))])]) [] [] (fun (i : Int) => (i + 1).toNat) (fun (i : Int) => i ≤ n ∧ -1 ≤ i ∧ Ca.cnt c i n < many) n ⟨Int.le_refl _, hn.1, by rw [Ca.cnt_none (Int.le_refl _)]; omega⟩ V.S_ (by (conv => whnf); exact ⟨rfl, congrArg (fun z => V.Ob.box _ [V.At.val (Value.int .i64 z)]) (by rw [Ca.cnt_none (Int.le_refl _)]; omega), trivial⟩) (fun _ => ⟨rfl, rfl⟩) ?_; (conv => whnf); refine ⟨⟨rfl, rfl⟩, ?_⟩
  rintro i ⟨h1, h2, h3⟩
  have cs := Ca.cnt_first (c := c) (a := i - 1) (b := n) (by omega)
  rw [show i - 1 + 1 = i by omega] at cs
  have c0 := (Ca.cnt_bd c i n).1
  have vo := fun q => v_caopen c i h q
  repeat' ((conv => whnf); first | refine V.NCond.mk ?_ | refine V.NPick.l ?_ | refine V.NIf.not_ ?_ | refine V.NIf.dec_ ?_ | refine V.a4 ?_ | refine V.a5 ?_ | refine V.NIf.mk (fun _ => ?_) (fun _ => ?_) | refine V.a7 ?_ | refine V.a8 ?_ | refine V.a9 ?_ | refine V.NBoth.mk ?_ ?_ | refine V.b1 ?_ | refine V.b2 ?_ | refine V.NTF.dec ?_ | refine V.b3 ?_ | refine V.b4 ?_ | ((first | refine V.Fn.k (vo ⟨by omega, by omega⟩) [0] rfl ?_ ?_ | refine V.Fn.q (vo ⟨by omega, by omega⟩) [0] rfl ?_ ?_ | refine V.Fn.a (vo ⟨by omega, by omega⟩) [0] rfl ?_ ?_); · exact V.D_) | (refine V.NYield.mk_ V.Tok V.mixed hL rfl rfl ?_) | (refine V.NDraw.any (by kernel_rfl) ?_) | fail)
  all_goals (conv => whnf)
  · exact V.fin1 (Ca.stD_is ⟨by omega, by omega, by assumption, by rw [show n + 1 - 1 = n by omega]; omega⟩)
  · exact V.NBack.at_ (i - 1) [] ⟨by omega, by omega, by omega⟩ (by omega) V.S_ rfl ⟨rfl, congrArg (fun z => V.Ob.box _ [V.At.val (Value.int .i64 z)]) (by omega), trivial⟩ V.S_ V.S_
  · have := Ca.op_01 c i
    exact V.NBack.at_ (i - 1) [] ⟨by omega, by omega, by omega⟩ (by omega) V.S_ rfl ⟨rfl, congrArg (fun z => V.Ob.box _ [V.At.val (Value.int .i64 z)]) (by omega), trivial⟩ V.S_ V.S_
  · have e : i = -1 := by omega
    rw [e] at h3
    exact V.fin1 (Ca.stD_no (by rw [show n + 1 - 1 = n by omega]; exact h3))
theorem v_caRaw (c : Cl) (n many : Int) (h : Ca.Ok c) (hn : Ca.Day n) (hm : -1000 ≤ many ∧ many ≤ 1000) : V.Fn Tryz.prog 103 [.arr 1 c.hs.length (ga e1 c.hs)] [.agg [.val (.int .i64 c.we), .ref 0], .one (.val (.int .i64 n)), .one (.val (.int .i64 many))] (.int .i64 (Ca.stp c n many)) := by
  unfold Ca.Day at hn
  have p := @Ca.stp_p c n many
  have m := @Ca.stp_n c n many
  have u := fun q r => v_nthU c (n + 1) many h q r
  have d := fun q r => v_nthD c (n - 1) (0 - many) h q r
  rw [show n + 1 - 1 = n by omega] at u
  rw [show n - 1 + 1 = n by omega] at d
  refine V.Fn.mk_ V.Tok V.mixed Tryz.func103 rfl Tryz.ntmps103 (by kernel_rfl) rfl rfl ?_
  repeat' ((conv => whnf); first | refine V.NCond.mk ?_ | refine V.NPick.l ?_ | refine V.NIf.not_ ?_ | refine V.NIf.dec_ ?_ | refine V.a4 ?_ | refine V.a5 ?_ | refine V.NIf.mk (fun _ => ?_) (fun _ => ?_) | refine V.a7 ?_ | refine V.a8 ?_ | refine V.a9 ?_ | refine V.NBoth.mk ?_ ?_ | refine V.b1 ?_ | refine V.b2 ?_ | refine V.NTF.dec ?_ | refine V.b3 ?_ | refine V.b4 ?_ | ((first | refine V.Fn.k (u (by omega) (by omega)) [0] rfl ?_ ?_ | refine V.Fn.q (u (by omega) (by omega)) [0] rfl ?_ ?_ | refine V.Fn.a (u (by omega) (by omega)) [0] rfl ?_ ?_); · exact V.D_) | ((first | refine V.Fn.k (d (by omega) (by omega)) [0] rfl ?_ ?_ | refine V.Fn.q (d (by omega) (by omega)) [0] rfl ?_ ?_ | refine V.Fn.a (d (by omega) (by omega)) [0] rfl ?_ ?_); · exact V.D_) | (refine V.NDraw.any (by kernel_rfl) ?_) | fail)
  all_goals (conv => whnf)
  · exact V.fin1 (p (by assumption))
  · exact V.fin1 ((m (by assumption)).trans (by rw [Int.zero_sub]))
  · obtain rfl : many = 0 := by omega
    exact V.fin1 Ca.stp_0
theorem v_caStep (c : Cl) (n many : Int) (hn : c.hs.length ≤ 9223372036854775807) : V.Fn Tryz.prog 43 [.arr 1 c.hs.length (ga e1 c.hs)] [.agg [.val (.int .i64 c.we), .ref 0], .one (.val (.int .i64 n)), .one (.val (.int .i64 many))] (.tuple #[.int .i64 (Ca.sV c n many), .int .i64 (Ca.sE c n many)]) := by
  have h0 : Ca.e1 c n = 0 → ¬ (many < -500 ∨ 500 < many) → Ca.Ok c ∧ Ca.Day n ∧ Ca.sV c n many = Ca.toV (Ca.stp c n many) ∧ Ca.sE c n many = Ca.toE (Ca.stp c n many) := fun h k => by
    obtain ⟨a, b, _⟩ := Ca.e1_ok h
    have e : Ca.sE0 c n many = 0 := by unfold Ca.sE0; rw [if_neg (by omega), if_neg k]
    exact ⟨a, b, if_neg (by omega), if_neg (by omega)⟩
  have h1 : ¬ Ca.e1 c n = 0 → Ca.sV c n many = 0 ∧ Ca.sE c n many = Ca.e1 c n := fun h => by
    have e : Ca.sE0 c n many = Ca.e1 c n := if_pos h
    exact ⟨if_pos (by omega), (if_pos (by omega)).trans e⟩
  have h2 : Ca.e1 c n = 0 → (many < -500 ∨ 500 < many) → Ca.sV c n many = 0 ∧ Ca.sE c n many = 3 := fun h k => by
    have e : Ca.sE0 c n many = 3 := (if_neg (by omega)).trans (if_pos k)
    exact ⟨if_pos (by omega), (if_pos (by omega)).trans e⟩
  have ck := v_caChecks c [n] hn (by simp)
  rw [show Ca.chks c [n] = Ca.e1 c n from rfl] at ck
  refine V.Fn.mk_ V.Tok V.mixed Tryz.func43 rfl Tryz.ntmps43 (by kernel_rfl) rfl rfl ?_
  repeat' ((conv => whnf); first | refine V.NCond.mk ?_ | refine V.NPick.l ?_ | refine V.NIf.not_ ?_ | refine V.NIf.dec_ ?_ | refine V.a4 ?_ | refine V.a5 ?_ | refine V.NIf.mk (fun _ => ?_) (fun _ => ?_) | refine V.a7 ?_ | refine V.a8 ?_ | refine V.a9 ?_ | refine V.NBoth.mk ?_ ?_ | refine V.b1 ?_ | refine V.b2 ?_ | refine V.NTF.dec ?_ | refine V.b3 ?_ | refine V.b4 ?_ | ((first | refine V.Fn.k (ck) [0, 2] rfl ?_ ?_ | refine V.Fn.q (ck) [0, 2] rfl ?_ ?_ | refine V.Fn.a (ck) [0, 2] rfl ?_ ?_); · exact V.D_) | ((first | refine V.Fn.k (v_caRaw c n many (h0 (by assumption) (by omega)).1 (h0 (by assumption) (by omega)).2.1 (by omega)) [0] rfl ?_ ?_ | refine V.Fn.q (v_caRaw c n many (h0 (by assumption) (by omega)).1 (h0 (by assumption) (by omega)).2.1 (by omega)) [0] rfl ?_ ?_ | refine V.Fn.a (v_caRaw c n many (h0 (by assumption) (by omega)).1 (h0 (by assumption) (by omega)).2.1 (by omega)) [0] rfl ?_ ?_); · exact V.D_) | (first | refine V.Fn.k0 (v_told _) rfl ?_ | refine V.Fn.q0 (v_told _) rfl ?_ | refine V.Fn.a0 (v_told _) rfl ?_) | (refine V.NDraw.any (by kernel_rfl) ?_) | fail)
  all_goals (conv => whnf)
  all_goals first
    | exact V.fin2 (h1 (by assumption))
    | exact V.fin2 (h2 (by assumption) (by omega))
    | exact V.fin2 (h0 (by assumption) (by omega)).2.2
    | trace_state
end Go.Proofs.YtpanlcnoopmchaaGreat

namespace Go.Proofs.YtpanlcnoopmchaaGreat
open Go.RowKit
end Go.Proofs.YtpanlcnoopmchaaGreat

namespace Go.Proofs.YtpanlcnoopmchaaGreat
open Go.RowKit
end Go.Proofs.YtpanlcnoopmchaaGreat

namespace Go.Proofs.YtpanlcnoopmchaaGreat
open Go.RowKit
end Go.Proofs.YtpanlcnoopmchaaGreat

namespace Go.Proofs.YtpanlcnoopmchaaGreat
open Go.RowKit
end Go.Proofs.YtpanlcnoopmchaaGreat

namespace Go.Proofs.YtpanlcnoopmchaaGreat
open Go Go.RowKit V
namespace V
theorem Svs.vals_ {ρ : Rho} : ∀ {vs xs : List Value}, Svs ρ (vs.map fun v => SV.one (.val v)) xs → xs = vs
  | [], _, h => h
  | v :: l, _, ⟨x, r, e, hv, hr⟩ => by
    have : x = v := hv
    subst this
    rw [e, Svs.vals_ hr]
theorem Fn.old {P : Program} {f : FuncId} {os : List Ob} {x : Value} (vs : List Value) (hb : hasBody P f = true) (h : ∀ w, (∀ (i : Nat) o, os[i]? = some o → ∃ ρ v, Ro ρ w v o) → Calls P f vs.toArray w fun e w' => e = .returned x ∧ w = w') : Fn P f os (vs.map fun v => SV.one (.val v)) x :=
  ⟨hb, fun w ρ xs ho hs => by
    rw [Svs.vals_ hs]
    refine (h w fun i o e => by obtain ⟨v, _, q⟩ := ho i o e; exact ⟨ρ, v, q⟩).mono ?_
    rintro e w' ⟨rfl, rfl⟩
    exact ⟨rfl, Below.refl _ _⟩⟩
end V
end Go.Proofs.YtpanlcnoopmchaaGreat

namespace Go.Proofs.YtpanlcnoopmchaaGreat
open Go Go.RowKit V
theorem v_rcaStepU (c : Cl) (n m : Int) (h : Ca.Ok c) (hn : Ca.Day n) (hm : 0 < m ∧ m ≤ 9223372036854775807) : V.Fn Tryz.prog 52 [.arr 1 c.hs.length (ga e1 c.hs)] [.agg [.val (.int .i64 c.we), .ref 0], .one (.val (.int .i64 n)), .one (.val (.int .i64 m))] (.int .i64 (Ca.stU c n m)) := by
  unfold Ca.Day at hn
  refine V.Fn.mk_ V.Tok V.mixed Tryz.func52 rfl Tryz.ntmps52 (by kernel_rfl) rfl rfl ?_
  repeat' ((conv => whnf); first | refine V.NCond.mk ?_ | refine V.NPick.l ?_ | refine V.NIf.not_ ?_ | refine V.NIf.dec_ ?_ | refine V.a4 ?_ | refine V.a5 ?_ | refine V.NIf.mk (fun _ => ?_) (fun _ => ?_) | refine V.a7 ?_ | refine V.a8 ?_ | refine V.a9 ?_ | refine V.NBoth.mk ?_ ?_ | refine V.b1 ?_ | refine V.b2 ?_ | refine V.NTF.dec ?_ | refine V.b3 ?_ | refine V.b4 ?_ | (refine V.NDraw.any (by kernel_rfl) ?_) | fail)
  refine V.NLoop.auto (fun (d : Int) => [(1, .one (.val (.int .i64 d))), (2, .one (.val (.int .i64 (m - Ca.cnt c n d))))]) (fun (d : Int) => []) [] [] (fun (d : Int) => (3652058 - d).toNat) (fun (d : Int) => n ≤ d ∧ d ≤ 3652058 ∧ Ca.cnt c n d ≤ m ∧ (Ca.cnt c n d = m → Ca.Up c n m d)) n ⟨Int.le_refl _, hn.2, by rw [Ca.cnt_none (Int.le_refl _)]; omega, fun q => by rw [Ca.cnt_none (Int.le_refl _)] at q; omega⟩ (by (conv => whnf); exact ⟨V.S_, congrArg (fun z => V.SV.one (V.At.val (Value.int .i64 z))) (by rw [Ca.cnt_none (Int.le_refl _)]; omega), trivial⟩) V.S_ (fun _ => ⟨rfl, rfl⟩) ?_; (conv => whnf); refine ⟨⟨rfl, rfl⟩, ?_⟩
  rintro d ⟨h1, h2, h3, h4⟩
  have c0 := (Ca.cnt_bd c n d).1
  have cs := Ca.cnt_succ (c := c) h1
  have vb := v_business c (d + 1) h
  unfold Ca.Day at vb
  have o := Ca.op_01 c (d + 1)
  repeat' ((conv => whnf); first | refine V.NCond.mk ?_ | refine V.NPick.l ?_ | refine V.NIf.not_ ?_ | refine V.NIf.dec_ ?_ | refine V.a4 ?_ | refine V.a5 ?_ | refine V.NIf.mk (fun _ => ?_) (fun _ => ?_) | refine V.a7 ?_ | refine V.a8 ?_ | refine V.a9 ?_ | refine V.NBoth.mk ?_ ?_ | refine V.b1 ?_ | refine V.b2 ?_ | refine V.NTF.dec ?_ | refine V.b3 ?_ | refine V.b4 ?_ | (first | refine V.Fn.k0 (v_rbetween _ _ _) rfl ?_ | refine V.Fn.q0 (v_rbetween _ _ _) rfl ?_ | refine V.Fn.a0 (v_rbetween _ _ _) rfl ?_) | ((first | refine V.Fn.k (vb) [0] rfl ?_ ?_ | refine V.Fn.q (vb) [0] rfl ?_ ?_ | refine V.Fn.a (vb) [0] rfl ?_ ?_); · exact V.D_) | (refine V.NDraw.any (by kernel_rfl) ?_) | fail)
  all_goals (conv => whnf)
  all_goals first
    | exact V.fin1 (Ca.stU_is (h4 (by omega)))
    | (obtain rfl : d = 3652058 := by omega
       exact V.fin1 (Ca.stU_no (by omega)))
    | (have ho : Ca.op c (d + 1) = 1 := by omega
       exact V.NBack.at_ (d + 1) [] ⟨by omega, by omega, by omega, fun q => ⟨by omega, by omega, ho, q⟩⟩ (by omega) ⟨V.S_, congrArg (fun z => V.SV.one (V.At.val (Value.int .i64 z))) (by omega), trivial⟩ rfl V.S_ V.S_ V.S_)
    | (have ho : Ca.op c (d + 1) = 0 := by omega
       exact V.NBack.at_ (d + 1) [] ⟨by omega, by omega, by omega, fun q => by omega⟩ (by omega) ⟨V.S_, congrArg (fun z => V.SV.one (V.At.val (Value.int .i64 z))) (by omega), trivial⟩ rfl V.S_ V.S_ V.S_)
theorem v_rcaStepD (c : Cl) (n m : Int) (h : Ca.Ok c) (hn : Ca.Day n) (hm : 0 < m ∧ m ≤ 9223372036854775807) : V.Fn Tryz.prog 52 [.arr 1 c.hs.length (ga e1 c.hs)] [.agg [.val (.int .i64 c.we), .ref 0], .one (.val (.int .i64 n)), .one (.val (.int .i64 (-m)))] (.int .i64 (Ca.stD c n m)) := by
  unfold Ca.Day at hn
  refine V.Fn.mk_ V.Tok V.mixed Tryz.func52 rfl Tryz.ntmps52 (by kernel_rfl) rfl rfl ?_
  repeat' ((conv => whnf); first | refine V.NCond.mk ?_ | refine V.NPick.l ?_ | refine V.NIf.not_ ?_ | refine V.NIf.dec_ ?_ | refine V.a4 ?_ | refine V.a5 ?_ | refine V.NIf.mk (fun _ => ?_) (fun _ => ?_) | refine V.a7 ?_ | refine V.a8 ?_ | refine V.a9 ?_ | refine V.NBoth.mk ?_ ?_ | refine V.b1 ?_ | refine V.b2 ?_ | refine V.NTF.dec ?_ | refine V.b3 ?_ | refine V.b4 ?_ | (refine V.NDraw.any (by kernel_rfl) ?_) | fail)
  refine V.NLoop.auto (fun (d : Int) => [(1, .one (.val (.int .i64 d))), (2, .one (.val (.int .i64 (-(m - Ca.cnt c (d - 1) (n - 1))))))]) (fun (d : Int) => []) [] [] (fun (d : Int) => d.toNat) (fun (d : Int) => d ≤ n ∧ 0 ≤ d ∧ Ca.cnt c (d - 1) (n - 1) ≤ m ∧ (Ca.cnt c (d - 1) (n - 1) = m → Ca.Dn c n m d)) n ⟨Int.le_refl _, hn.1, by rw [Ca.cnt_none (Int.le_refl _)]; omega, fun q => by rw [Ca.cnt_none (Int.le_refl _)] at q; omega⟩ (by (conv => whnf); exact ⟨V.S_, congrArg (fun z => V.SV.one (V.At.val (Value.int .i64 z))) (by rw [Ca.cnt_none (Int.le_refl _)]; omega), trivial⟩) V.S_ (fun _ => ⟨rfl, rfl⟩) ?_; (conv => whnf); refine ⟨⟨rfl, rfl⟩, ?_⟩
  rintro d ⟨h1, h2, h3, h4⟩
  have c0 := (Ca.cnt_bd c (d - 1) (n - 1)).1
  have cs := fun q => Ca.cnt_first (c := c) (a := d - 1 - 1) (b := n - 1) q
  rw [show d - 1 - 1 + 1 = d - 1 by omega] at cs
  have vb := v_business c (d - 1) h
  unfold Ca.Day at vb
  have o := Ca.op_01 c (d - 1)
  repeat' ((conv => whnf); first | refine V.NCond.mk ?_ | refine V.NPick.l ?_ | refine V.NIf.not_ ?_ | refine V.NIf.dec_ ?_ | refine V.a4 ?_ | refine V.a5 ?_ | refine V.NIf.mk (fun _ => ?_) (fun _ => ?_) | refine V.a7 ?_ | refine V.a8 ?_ | refine V.a9 ?_ | refine V.NBoth.mk ?_ ?_ | refine V.b1 ?_ | refine V.b2 ?_ | refine V.NTF.dec ?_ | refine V.b3 ?_ | refine V.b4 ?_ | (first | refine V.Fn.k0 (v_rbetween _ _ _) rfl ?_ | refine V.Fn.q0 (v_rbetween _ _ _) rfl ?_ | refine V.Fn.a0 (v_rbetween _ _ _) rfl ?_) | ((first | refine V.Fn.k (vb) [0] rfl ?_ ?_ | refine V.Fn.q (vb) [0] rfl ?_ ?_ | refine V.Fn.a (vb) [0] rfl ?_ ?_); · exact V.D_) | (refine V.NDraw.any (by kernel_rfl) ?_) | fail)
  all_goals (conv => whnf)
  all_goals first
    | exact V.fin1 (Ca.stD_is (h4 (by omega)))
    | (obtain rfl : d = 0 := by omega
       exact V.fin1 (Ca.stD_no (by rw [show (-1 : Int) = 0 - 1 from rfl]; omega)))
    | (have ho : Ca.op c (d - 1) = 1 := by omega
       have cs := cs (by omega)
       exact V.NBack.at_ (d - 1) [] ⟨by omega, by omega, by omega, fun q => ⟨by omega, by omega, ho, q⟩⟩ (by omega) ⟨V.S_, congrArg (fun z => V.SV.one (V.At.val (Value.int .i64 z))) (by omega), trivial⟩ rfl V.S_ V.S_ V.S_)
    | (have ho : Ca.op c (d - 1) = 0 := by omega
       have cs := cs (by omega)
       exact V.NBack.at_ (d - 1) [] ⟨by omega, by omega, by omega, fun q => by omega⟩ (by omega) ⟨V.S_, congrArg (fun z => V.SV.one (V.At.val (Value.int .i64 z))) (by omega), trivial⟩ rfl V.S_ V.S_ V.S_)
theorem v_rcaStep0 (c : Cl) (n : Int) : V.Fn Tryz.prog 52 [.arr 1 c.hs.length (ga e1 c.hs)] [.agg [.val (.int .i64 c.we), .ref 0], .one (.val (.int .i64 n)), .one (.val (.int .i64 0))] (.int .i64 n) := by
  refine V.Fn.mk_ V.Tok V.mixed Tryz.func52 rfl Tryz.ntmps52 (by kernel_rfl) rfl rfl ?_
  repeat' ((conv => whnf); first | refine V.NCond.mk ?_ | refine V.NPick.l ?_ | refine V.NIf.not_ ?_ | refine V.NIf.dec_ ?_ | refine V.a4 ?_ | refine V.a5 ?_ | refine V.NIf.mk (fun _ => ?_) (fun _ => ?_) | refine V.a7 ?_ | refine V.a8 ?_ | refine V.a9 ?_ | refine V.NBoth.mk ?_ ?_ | refine V.b1 ?_ | refine V.b2 ?_ | refine V.NTF.dec ?_ | refine V.b3 ?_ | refine V.b4 ?_ | (refine V.NDraw.any (by kernel_rfl) ?_) | fail)
  refine V.NLoop.auto (fun (d : Nat) => [(1, .one (.val (.int .i64 n))), (2, .one (.val (.int .i64 0)))]) (fun (d : Nat) => []) [] [] (fun (d : Nat) => d) (fun (d : Nat) => True) 0 trivial V.S_ V.S_ (fun _ => ⟨rfl, rfl⟩) ?_; (conv => whnf); refine ⟨⟨rfl, rfl⟩, ?_⟩
  rintro d -
  repeat' ((conv => whnf); first | refine V.NCond.mk ?_ | refine V.NPick.l ?_ | refine V.NIf.not_ ?_ | refine V.NIf.dec_ ?_ | refine V.a4 ?_ | refine V.a5 ?_ | refine V.NIf.mk (fun _ => ?_) (fun _ => ?_) | refine V.a7 ?_ | refine V.a8 ?_ | refine V.a9 ?_ | refine V.NBoth.mk ?_ ?_ | refine V.b1 ?_ | refine V.b2 ?_ | refine V.NTF.dec ?_ | refine V.b3 ?_ | refine V.b4 ?_ | (refine V.NDraw.any (by kernel_rfl) ?_) | fail)
  exact V.fin1 rfl
theorem v_rcaStep (c : Cl) (n m : Int) (h : Ca.Ok c) (hn : Ca.Day n) (hm : -500 ≤ m ∧ m ≤ 500) : V.Fn Tryz.prog 52 [.arr 1 c.hs.length (ga e1 c.hs)] [.agg [.val (.int .i64 c.we), .ref 0], .one (.val (.int .i64 n)), .one (.val (.int .i64 m))] (.int .i64 (Ca.stp c n m)) := by
  rcases Int.lt_trichotomy m 0 with q | rfl | q
  · have := v_rcaStepD c n (-m) h hn (by omega)
    rwa [Int.neg_neg, ← Ca.stp_n q] at this
  · have := v_rcaStep0 c n
    rwa [show n = Ca.stp c n 0 from Ca.stp_0.symm] at this
  · have := v_rcaStepU c n m h hn (by omega)
    rwa [← Ca.stp_p q] at this
end Go.Proofs.YtpanlcnoopmchaaGreat

namespace Go.Proofs.YtpanlcnoopmchaaGreat
open Go Go.RowKit V
theorem v_agwithin (n a b : Int) : V.Fn Tryz.prog 149 [] [.one (.val (.int .i64 n)), .one (.val (.int .i64 a)), .one (.val (.int .i64 b))] (.bool (decide (a ≤ n ∧ n ≤ b))) := by
  refine V.Fn.mk_ V.Tok V.mixed Tryz.func149 rfl Tryz.ntmps149 (by kernel_rfl) rfl rfl ?_
  repeat' ((conv => whnf); first | refine V.NCond.mk ?_ | refine V.NPick.l ?_ | refine V.NIf.not_ ?_ | refine V.NIf.dec_ ?_ | refine V.a4 ?_ | refine V.a5 ?_ | refine V.NIf.mk (fun _ => ?_) (fun _ => ?_) | refine V.a7 ?_ | refine V.a8 ?_ | refine V.a9 ?_ | refine V.NBoth.mk ?_ ?_ | refine V.b1 ?_ | refine V.b2 ?_ | refine V.NTF.dec ?_ | refine V.b3 ?_ | refine V.b4 ?_ | (refine V.NDraw.any (by kernel_rfl) ?_) | fail)
  · exact ⟨_, rfl, by simp_all⟩
  · exact congrArg Value.bool (by simp_all; omega)
theorem v_agCheck (t : Tm) : V.Fn Tryz.prog 115 [] [.agg [.val (.int .i64 t.ex), .val (.int .i64 t.bu), .val (.int .i64 t.de), .val (.int .i64 t.ra)]] (.int .i64 (Ag.tchk t)) := by
  have h1 : Ag.Wi t → Ag.tchk t = 0 := fun h => if_pos h
  have h2 : ¬ Ag.Wi t → Ag.tchk t = 3 := fun h => if_neg h
  have hw : Ag.Wi t ↔ ((0 ≤ t.ex ∧ t.ex ≤ 100) ∧ (0 ≤ t.bu ∧ t.bu ≤ 100) ∧ (0 ≤ t.de ∧ t.de ≤ 100) ∧ (0 ≤ t.ra ∧ t.ra ≤ 1000000)) := Iff.rfl
  refine V.Fn.mk_ V.Tok V.mixed Tryz.func115 rfl Tryz.ntmps115 (by kernel_rfl) rfl rfl ?_
  repeat' ((conv => whnf); first | refine V.NCond.mk ?_ | refine V.NPick.l ?_ | refine V.NIf.not_ ?_ | refine V.NIf.dec_ ?_ | refine V.a4 ?_ | refine V.a5 ?_ | refine V.NIf.mk (fun _ => ?_) (fun _ => ?_) | refine V.a7 ?_ | refine V.a8 ?_ | refine V.a9 ?_ | refine V.NBoth.mk ?_ ?_ | refine V.b1 ?_ | refine V.b2 ?_ | refine V.NTF.dec ?_ | refine V.b3 ?_ | refine V.b4 ?_ | (first | refine V.Fn.k0 (v_agwithin _ _ _) rfl ?_ | refine V.Fn.q0 (v_agwithin _ _ _) rfl ?_ | refine V.Fn.a0 (v_agwithin _ _ _) rfl ?_) | (refine V.NDraw.any (by kernel_rfl) ?_) | fail)
  all_goals (conv => whnf)
  all_goals first
    | exact V.fin1 (h1 (hw.2 (by omega)))
    | exact V.fin1 (h2 (fun q => by have := hw.1 q; omega))
theorem v_rtmCheck (t : Tm) : V.Fn Tryz.prog 116 [] [.agg [.val (.int .i64 t.ex), .val (.int .i64 t.bu), .val (.int .i64 t.de), .val (.int .i64 t.ra)]] (.int .i64 (Ag.tchk t)) := by
  have h1 : Ag.Wi t → Ag.tchk t = 0 := fun h => if_pos h
  have h2 : ¬ Ag.Wi t → Ag.tchk t = 3 := fun h => if_neg h
  have hw : Ag.Wi t ↔ ((0 ≤ t.ex ∧ t.ex ≤ 100) ∧ (0 ≤ t.bu ∧ t.bu ≤ 100) ∧ (0 ≤ t.de ∧ t.de ≤ 100) ∧ (0 ≤ t.ra ∧ t.ra ≤ 1000000)) := Iff.rfl
  refine V.Fn.mk_ V.Tok V.mixed Tryz.func116 rfl Tryz.ntmps116 (by kernel_rfl) rfl rfl ?_
  repeat' ((conv => whnf); first | refine V.NCond.mk ?_ | refine V.NPick.l ?_ | refine V.NIf.not_ ?_ | refine V.NIf.dec_ ?_ | refine V.a4 ?_ | refine V.a5 ?_ | refine V.NIf.mk (fun _ => ?_) (fun _ => ?_) | refine V.a7 ?_ | refine V.a8 ?_ | refine V.a9 ?_ | refine V.NBoth.mk ?_ ?_ | refine V.b1 ?_ | refine V.b2 ?_ | refine V.NTF.dec ?_ | refine V.b3 ?_ | refine V.b4 ?_ | (first | refine V.Fn.k0 (v_rbetween _ _ _) rfl ?_ | refine V.Fn.q0 (v_rbetween _ _ _) rfl ?_ | refine V.Fn.a0 (v_rbetween _ _ _) rfl ?_) | (refine V.NDraw.any (by kernel_rfl) ?_) | fail)
  all_goals (conv => whnf)
  all_goals first
    | exact V.fin1 (h1 (hw.2 (by omega)))
    | exact V.fin1 (h2 (fun q => by have := hw.1 q; omega))
theorem v_agcheck (c : Cl) (t : Tm) (hc : c.hs.length ≤ 9223372036854775807) : V.Fn Tryz.prog 82 [.arr 1 c.hs.length (ga e1 c.hs)] [.agg [.val (.int .i64 c.we), .ref 0], .agg [.val (.int .i64 t.ex), .val (.int .i64 t.bu), .val (.int .i64 t.de), .val (.int .i64 t.ra)]] (.int .i64 (Ag.ck c t)) := by
  have h1 := @Ag.ck_1 c t
  have h2 := @Ag.ck_2 c t
  refine V.Fn.mk_ V.Tok V.mixed Tryz.func82 rfl Tryz.ntmps82 (by kernel_rfl) rfl rfl ?_
  repeat' ((conv => whnf); first | refine V.NCond.mk ?_ | refine V.NPick.l ?_ | refine V.NIf.not_ ?_ | refine V.NIf.dec_ ?_ | refine V.a4 ?_ | refine V.a5 ?_ | refine V.NIf.mk (fun _ => ?_) (fun _ => ?_) | refine V.a7 ?_ | refine V.a8 ?_ | refine V.a9 ?_ | refine V.NBoth.mk ?_ ?_ | refine V.b1 ?_ | refine V.b2 ?_ | refine V.NTF.dec ?_ | refine V.b3 ?_ | refine V.b4 ?_ | ((first | refine V.Fn.k (v_caCheck c hc) [0] rfl ?_ ?_ | refine V.Fn.q (v_caCheck c hc) [0] rfl ?_ ?_ | refine V.Fn.a (v_caCheck c hc) [0] rfl ?_ ?_); · exact V.D_) | (first | refine V.Fn.k0 (v_agCheck _) rfl ?_ | refine V.Fn.q0 (v_agCheck _) rfl ?_ | refine V.Fn.a0 (v_agCheck _) rfl ?_) | (refine V.NDraw.any (by kernel_rfl) ?_) | fail)
  all_goals (conv => whnf)
  · exact V.fin1 (h2 (by omega))
  · exact V.fin1 (h1 (by assumption))
theorem v_steps (c : Cl) (day : Int) (l : List Int) (h : Ca.Ok c) (hd : Ca.Day day) (hn : l.length ≤ 1000) (hb : ∀ x ∈ l, 0 ≤ x ∧ x ≤ 100) : V.FnR Tryz.prog 83 [.arr 1 c.hs.length (ga e1 c.hs), .arr 1 l.length (ga e1 l)] [.agg [.val (.int .i64 c.we), .ref 0], .one (.val (.int .i64 day)), .one (.ref 1)] (.tup [.one (.ref 2), .one (.val (.bool (decide (Ag.okS c day l))))]) [.row 3 1 (if Ag.okS c day l then Ag.sq c day l else []).length (ga e1 (if Ag.okS c day l then Ag.sq c day l else []))] := by
  have sl := Ag.sq_len c l day
  refine V.FnR.mk_ V.Tok V.mixed Tryz.func83 rfl Tryz.ntmps83 (by kernel_rfl) rfl rfl rfl rfl ?_
  repeat' ((conv => whnf); first | refine V.NCond.mk ?_ | refine V.NPick.l ?_ | refine V.NIf.not_ ?_ | refine V.NIf.dec_ ?_ | refine V.a4 ?_ | refine V.a5 ?_ | refine V.NIf.mk (fun _ => ?_) (fun _ => ?_) | refine V.a7 ?_ | refine V.a8 ?_ | refine V.a9 ?_ | refine V.NBoth.mk ?_ ?_ | refine V.b1 ?_ | refine V.b2 ?_ | refine V.NTF.dec ?_ | refine V.b3 ?_ | refine V.b4 ?_ | (refine V.NDraw.any (by kernel_rfl) ?_) | fail)
  all_goals (conv => whnf)
  refine V.NLoop.auto (fun (k : Nat) => [(13, .one (.val (.int .i64 k))), (1, .one (.val (.int .i64 ((day :: Ag.sq c day l).getD k default)))), (8, .one (.ref 4))]) (fun (k : Nat) => [(4, .row 3 1 ((Ag.sq c day l).take k).length (ga e1 ((Ag.sq c day l).take k)))]) [] [] (fun (k : Nat) => l.length - k) (fun (k : Nat) => k ≤ l.length ∧ ∀ j, j < k → 0 ≤ (Ag.sq c day l).getD j default) 0 ⟨Nat.zero_le _, fun j hj => absurd hj (Nat.not_lt_zero _)⟩ V.S_ V.S_ (fun _ => ⟨rfl, rfl⟩) ?_; (conv => whnf); refine ⟨⟨rfl, rfl⟩, ?_⟩
  rintro k ⟨hk, hJ⟩
  have dk := Ag.sq_day (l := l) hd k hk hJ
  by_cases hlt : k < l.length
  · have bk := hb _ (getD_mem hlt)
    have sa := Ag.sq_at c l day k hlt
    have tk : (Ag.sq c day l).take (k + 1) = (Ag.sq c day l).take k ++ [(Ag.sq c day l).getD k default] := by
      rw [List.take_succ_eq_append_getElem (by omega), getD_at (by omega)]
    have tl : ((Ag.sq c day l).take k).length = k := by rw [List.length_take]; omega
    generalize hx : (day :: Ag.sq c day l).getD k default = cur at *
    have rw_ := v_caRaw c cur (l.getD k default) h dk (by omega)
    rw [← sa] at rw_
    repeat' ((conv => whnf); first | refine V.NCond.mk ?_ | refine V.NPick.l ?_ | refine V.NIf.not_ ?_ | refine V.NIf.dec_ ?_ | refine V.a4 ?_ | refine V.a5 ?_ | refine V.NIf.mk (fun _ => ?_) (fun _ => ?_) | refine V.a7 ?_ | refine V.a8 ?_ | refine V.a9 ?_ | refine V.NBoth.mk ?_ ?_ | refine V.b1 ?_ | refine V.b2 ?_ | refine V.NTF.dec ?_ | refine V.b3 ?_ | refine V.b4 ?_ | (refine NIdx.mk ⟨k, rfl, by omega, ?_⟩) | ((first | refine V.Fn.k (rw_) [0] rfl ?_ ?_ | refine V.Fn.q (rw_) [0] rfl ?_ ?_ | refine V.Fn.a (rw_) [0] rfl ?_ ?_); · exact V.D_) | (refine V.NDraw.any (by kernel_rfl) ?_) | fail)
    all_goals (conv => whnf)
    · have no : ¬ Ag.okS c day l := fun q => by
        have := q _ (getD_mem (l := Ag.sq c day l) (k := k) (by omega))
        omega
      rw [if_neg no, decide_eq_false no]
      refine NRet.mk_ [some 5] rfl ⟨rfl, rfl, trivial⟩ ⟨⟨rfl, rfl, rfl, fun k hk => absurd hk (Nat.not_lt_zero _)⟩, trivial⟩
    · refine V.NBack.at_ (k + 1) [(4, 6)] ⟨by omega, fun j hj => ?_⟩ (by omega) V.S_ rfl ⟨ObLe.as_ tk, trivial⟩ V.S_ V.S_
      by_cases e : j = k
      · subst e; omega
      · exact hJ j (by omega)
  · obtain rfl : k = l.length := by omega
    have ok : Ag.okS c day l := fun x hx => by
      obtain ⟨j, hj, rfl⟩ := List.getElem_of_mem hx
      have := hJ j (by omega)
      rwa [getD_at hj] at this
    have tw : (Ag.sq c day l).take l.length = Ag.sq c day l := by rw [← sl, List.take_length]
    rw [tw]
    clear tw
    rw [if_pos ok, decide_eq_true ok]
    repeat' ((conv => whnf); first | refine V.NCond.mk ?_ | refine V.NPick.l ?_ | refine V.NIf.not_ ?_ | refine V.NIf.dec_ ?_ | refine V.a4 ?_ | refine V.a5 ?_ | refine V.NIf.mk (fun _ => ?_) (fun _ => ?_) | refine V.a7 ?_ | refine V.a8 ?_ | refine V.a9 ?_ | refine V.NBoth.mk ?_ ?_ | refine V.b1 ?_ | refine V.b2 ?_ | refine V.NTF.dec ?_ | refine V.b3 ?_ | refine V.b4 ?_ | (refine V.NDraw.any (by kernel_rfl) ?_) | fail)
    all_goals (conv => whnf)
    refine NRet.mk_ [some 4] rfl ⟨rfl, rfl, trivial⟩ ⟨⟨rfl, rfl, rfl, fun k hk => rfl⟩, trivial⟩
theorem v_steps4 (c : Cl) (t : Tm) (day : Int) (h : Ca.Ok c) (hw : Ag.Wi t) (hd : Ca.Day day) :
    (Ag.There c t day → V.FnR Tryz.prog 83 [.arr 1 c.hs.length (ga e1 c.hs), .arr 1 [0, t.ex, t.bu, t.de].length (ga e1 [0, t.ex, t.bu, t.de])] [.agg [.val (.int .i64 c.we), .ref 0], .one (.val (.int .i64 day)), .one (.ref 1)] (.tup [.one (.ref 2), .one (.val (.bool true))]) [.row 3 1 [day, Ag.d1 c t day, Ag.d2 c t day, Ag.d3 c t day].length (ga e1 [day, Ag.d1 c t day, Ag.d2 c t day, Ag.d3 c t day])]) ∧
    (¬ Ag.There c t day → V.FnR Tryz.prog 83 [.arr 1 c.hs.length (ga e1 c.hs), .arr 1 [0, t.ex, t.bu, t.de].length (ga e1 [0, t.ex, t.bu, t.de])] [.agg [.val (.int .i64 c.we), .ref 0], .one (.val (.int .i64 day)), .one (.ref 1)] (.tup [.one (.ref 2), .one (.val (.bool false))]) [.row 3 1 ([] : List Int).length (ga e1 [])]) := by
  obtain ⟨w1, w2, w3, w4⟩ := hw
  have s := v_steps c day [0, t.ex, t.bu, t.de] h hd (by simp) (fun x hx => by simp at hx; omega)
  refine ⟨fun q => ?_, fun q => ?_⟩
  · rw [decide_eq_true ((Ag.ok4 hd).2 q), if_pos ((Ag.ok4 hd).2 q), Ag.sq4] at s; exact s
  · rw [decide_eq_false (fun z => q ((Ag.ok4 hd).1 z)), if_neg (fun z => q ((Ag.ok4 hd).1 z))] at s; exact s
theorem v_agStage (c : Cl) (t : Tm) (f : Fl) (n : Int) (hc : c.hs.length ≤ 9223372036854775807) : V.Fn Tryz.prog 36 [.arr 1 c.hs.length (ga e1 c.hs)] [.agg [.val (.int .i64 c.we), .ref 0], .agg [.val (.int .i64 t.ex), .val (.int .i64 t.bu), .val (.int .i64 t.de), .val (.int .i64 t.ra)], .agg [.val (.int .i64 f.id), .val (.int .i64 f.fr), .val (.int .i64 f.to), .val (.int .i64 f.cl), .val (.int .i64 f.pa), .val (.int .i64 f.day), .val (.int .i64 f.un), .val (.int .i64 f.de), .val (.int .i64 f.bo), .val (.int .i64 f.pd)], .one (.val (.int .i64 n))] (.tuple #[.int .i64 (Ag.sV c t f n), .int .i64 (Ag.sE c t f n)]) := by
  have ck := v_agcheck c t hc
  by_cases h1 : Ag.ck c t = 0
  · by_cases h2 : F.chk f = 0
    · obtain ⟨k1, k2⟩ := Ag.ck_ok h1
      have hd := Ag.f_day h2
      have s3 := Ag.s0_3 (n := n) h1 h2
      obtain ⟨s1, s2⟩ := v_steps4 c t f.day (Ca.chk_ok k1) k2 hd
      have fc := v_fcheck f
      rw [h1] at ck
      rw [h2] at fc
      by_cases h3 : D.chk n = 0
      · have dc := v_dcheck n
        rw [h3] at dc s3
        by_cases h4 : Ag.There c t f.day
        · have s1 := s1 h4
          have e := Ag.sE_3 s3 h4
          rw [e, Ag.sV_yes e]
          refine V.Fn.mk_ V.Tok V.mixed Tryz.func36 rfl Tryz.ntmps36 (by kernel_rfl) rfl rfl ?_
          repeat' ((conv => whnf); first | (refine V.NIf.yes ?_ ?_; · (decide; done)) | (refine V.NIf.no ?_ ?_; · (decide; done)) | refine V.NCond.mk ?_ | refine V.NPick.l ?_ | refine V.NIf.not_ ?_ | refine V.NIf.dec_ ?_ | refine V.a4 ?_ | refine V.a5 ?_ | refine V.NIf.mk (fun _ => ?_) (fun _ => ?_) | refine V.a7 ?_ | refine V.a8 ?_ | refine V.a9 ?_ | refine V.NBoth.mk ?_ ?_ | refine V.b1 ?_ | refine V.b2 ?_ | refine V.NTF.dec ?_ | refine V.b3 ?_ | refine V.b4 ?_ | (refine V.NCall.inl (f := 92) V.Tok V.mixed Tryz.func92 rfl Tryz.ntmps92 (by kernel_rfl) rfl ?_) | (refine V.NCall.inl (f := 93) V.Tok V.mixed Tryz.func93 rfl Tryz.ntmps93 (by kernel_rfl) rfl ?_) | ((first | refine V.Fn.k (ck) [0] rfl ?_ ?_ | refine V.Fn.q (ck) [0] rfl ?_ ?_ | refine V.Fn.a (ck) [0] rfl ?_ ?_); · exact V.D_) | (first | refine V.Fn.k0 (dc) rfl ?_ | refine V.Fn.q0 (dc) rfl ?_ | refine V.Fn.a0 (dc) rfl ?_) | (first | refine V.Fn.k0 (fc) rfl ?_ | refine V.Fn.q0 (fc) rfl ?_ | refine V.Fn.a0 (fc) rfl ?_) | ((first | refine V.FnR.k_ (s1) [0, 7] rfl ?_ ?_ | refine V.FnR.a_ (s1) [0, 7] rfl ?_ ?_); · exact V.D_) | (first | refine V.Fn.k0 (v_fleft f (F.chk_ok h2)) rfl ?_ | refine V.Fn.q0 (v_fleft f (F.chk_ok h2)) rfl ?_ | refine V.Fn.a0 (v_fleft f (F.chk_ok h2)) rfl ?_) | (refine V.NDraw.any (by kernel_rfl) ?_) | fail)
          all_goals (conv => whnf)
          · exact ⟨V.fin1 (if_pos (by assumption)), rfl, trivial⟩
          rw [Ag.stg_cn (by assumption)]
          generalize hl : [f.day, Ag.d1 c t f.day, Ag.d2 c t f.day, Ag.d3 c t f.day] = l at *
          have nl : l.length = 4 := by rw [← hl]; rfl
          refine V.NLoop.auto (fun (k : Nat) => [(19, .one (.val (.int .i64 k))), (5, .one (.val (.int .i64 (Ag.cn n (l.take k)))))]) (fun (k : Nat) => []) [] [] (fun (k : Nat) => l.length - k) (fun (k : Nat) => k ≤ l.length) 0 (Nat.zero_le _) V.S_ V.S_ (fun _ => ⟨rfl, rfl⟩) ?_; (conv => whnf); refine ⟨⟨rfl, rfl⟩, ?_⟩
          rintro k hk
          have b := Ag.cn_bd n (l.take k)
          rw [List.length_take] at b
          by_cases hlt : k < l.length
          · have sn : Ag.cn n (l.take (k + 1)) = Ag.cn n (l.take k) + Ag.one (l.getD k default < n) := by
              rw [List.take_succ_eq_append_getElem hlt, Ag.cn_snoc, getD_at hlt]
            repeat' ((conv => whnf); first | refine V.NCond.mk ?_ | refine V.NPick.l ?_ | refine V.NIf.not_ ?_ | refine V.NIf.dec_ ?_ | refine V.a4 ?_ | refine V.a5 ?_ | refine V.NIf.mk (fun _ => ?_) (fun _ => ?_) | refine V.a7 ?_ | refine V.a8 ?_ | refine V.a9 ?_ | refine V.NBoth.mk ?_ ?_ | refine V.b1 ?_ | refine V.b2 ?_ | refine V.NTF.dec ?_ | refine V.b3 ?_ | refine V.b4 ?_ | (refine NIdx.mk ⟨k, rfl, by omega, ?_⟩) | (refine V.NDraw.any (by kernel_rfl) ?_) | fail)
            all_goals (conv => whnf)
            · exact V.NBack.at_ (k + 1) [] (by omega) (by omega) ⟨V.S_, congrArg (fun z => V.SV.one (V.At.val (Value.int .i64 z))) (by rw [sn]; unfold Ag.one; rw [if_pos (by assumption)]), trivial⟩ rfl V.S_ V.S_ V.S_
            · exact V.NBack.at_ (k + 1) [] (by omega) (by omega) ⟨V.S_, congrArg (fun z => V.SV.one (V.At.val (Value.int .i64 z))) (by rw [sn]; unfold Ag.one; rw [if_neg (by assumption)]; omega), trivial⟩ rfl V.S_ V.S_ V.S_
          · obtain rfl : k = l.length := by omega
            rw [List.take_length]
            repeat' ((conv => whnf); first | refine V.NCond.mk ?_ | refine V.NPick.l ?_ | refine V.NIf.not_ ?_ | refine V.NIf.dec_ ?_ | refine V.a4 ?_ | refine V.a5 ?_ | refine V.NIf.mk (fun _ => ?_) (fun _ => ?_) | refine V.a7 ?_ | refine V.a8 ?_ | refine V.a9 ?_ | refine V.NBoth.mk ?_ ?_ | refine V.b1 ?_ | refine V.b2 ?_ | refine V.NTF.dec ?_ | refine V.b3 ?_ | refine V.b4 ?_ | (refine V.NDraw.any (by kernel_rfl) ?_) | fail)
            all_goals (conv => whnf)
            exact ⟨rfl, rfl, trivial⟩
        · have s2 := s2 h4
          have e := Ag.sE_2 s3 h4
          rw [e, (Ag.sV_no (by omega)).1]
          refine V.Fn.mk_ V.Tok V.mixed Tryz.func36 rfl Tryz.ntmps36 (by kernel_rfl) rfl rfl ?_
          repeat' ((conv => whnf); first | (refine V.NIf.yes ?_ ?_; · (decide; done)) | (refine V.NIf.no ?_ ?_; · (decide; done)) | refine V.NCond.mk ?_ | refine V.NPick.l ?_ | refine V.NIf.not_ ?_ | refine V.NIf.dec_ ?_ | refine V.a4 ?_ | refine V.a5 ?_ | refine V.NIf.mk (fun _ => ?_) (fun _ => ?_) | refine V.a7 ?_ | refine V.a8 ?_ | refine V.a9 ?_ | refine V.NBoth.mk ?_ ?_ | refine V.b1 ?_ | refine V.b2 ?_ | refine V.NTF.dec ?_ | refine V.b3 ?_ | refine V.b4 ?_ | (refine V.NCall.inl (f := 92) V.Tok V.mixed Tryz.func92 rfl Tryz.ntmps92 (by kernel_rfl) rfl ?_) | ((first | refine V.Fn.k (ck) [0] rfl ?_ ?_ | refine V.Fn.q (ck) [0] rfl ?_ ?_ | refine V.Fn.a (ck) [0] rfl ?_ ?_); · exact V.D_) | (first | refine V.Fn.k0 (dc) rfl ?_ | refine V.Fn.q0 (dc) rfl ?_ | refine V.Fn.a0 (dc) rfl ?_) | (first | refine V.Fn.k0 (fc) rfl ?_ | refine V.Fn.q0 (fc) rfl ?_ | refine V.Fn.a0 (fc) rfl ?_) | ((first | refine V.FnR.k_ (s2) [0, 7] rfl ?_ ?_ | refine V.FnR.a_ (s2) [0, 7] rfl ?_ ?_); · exact V.D_) | (refine V.NDraw.any (by kernel_rfl) ?_) | fail)
          all_goals (conv => whnf)
          all_goals exact ⟨rfl, rfl, trivial⟩
      · have e := (Ag.sE_1 (c := c) (t := t) (f := f) (n := n) (by omega)).trans s3
        rw [e, (Ag.sV_no (by omega)).1]
        refine V.Fn.mk_ V.Tok V.mixed Tryz.func36 rfl Tryz.ntmps36 (by kernel_rfl) rfl rfl ?_
        repeat' ((conv => whnf); first | (refine V.NIf.yes ?_ ?_; · (decide; done)) | (refine V.NIf.no ?_ ?_; · (decide; done)) | refine V.NCond.mk ?_ | refine V.NPick.l ?_ | refine V.NIf.not_ ?_ | refine V.NIf.dec_ ?_ | refine V.a4 ?_ | refine V.a5 ?_ | refine V.NIf.mk (fun _ => ?_) (fun _ => ?_) | refine V.a7 ?_ | refine V.a8 ?_ | refine V.a9 ?_ | refine V.NBoth.mk ?_ ?_ | refine V.b1 ?_ | refine V.b2 ?_ | refine V.NTF.dec ?_ | refine V.b3 ?_ | refine V.b4 ?_ | (refine V.NCall.inl (f := 92) V.Tok V.mixed Tryz.func92 rfl Tryz.ntmps92 (by kernel_rfl) rfl ?_) | ((first | refine V.Fn.k (ck) [0] rfl ?_ ?_ | refine V.Fn.q (ck) [0] rfl ?_ ?_ | refine V.Fn.a (ck) [0] rfl ?_ ?_); · exact V.D_) | (first | refine V.Fn.k0 (v_dcheck n) rfl ?_ | refine V.Fn.q0 (v_dcheck n) rfl ?_ | refine V.Fn.a0 (v_dcheck n) rfl ?_) | (first | refine V.Fn.k0 (fc) rfl ?_ | refine V.Fn.q0 (fc) rfl ?_ | refine V.Fn.a0 (fc) rfl ?_) | (refine V.NDraw.any (by kernel_rfl) ?_) | fail)
        all_goals (conv => whnf)
        all_goals exact ⟨rfl, rfl, trivial⟩
    · have s3 := Ag.s0_2 (n := n) h1 h2
      have e := (Ag.sE_1 (c := c) (t := t) (f := f) (n := n) (by omega)).trans s3
      rw [e, (Ag.sV_no (by omega)).1]
      rw [h1] at ck
      refine V.Fn.mk_ V.Tok V.mixed Tryz.func36 rfl Tryz.ntmps36 (by kernel_rfl) rfl rfl ?_
      repeat' ((conv => whnf); first | (refine V.NIf.yes ?_ ?_; · (decide; done)) | (refine V.NIf.no ?_ ?_; · (decide; done)) | refine V.NCond.mk ?_ | refine V.NPick.l ?_ | refine V.NIf.not_ ?_ | refine V.NIf.dec_ ?_ | refine V.a4 ?_ | refine V.a5 ?_ | refine V.NIf.mk (fun _ => ?_) (fun _ => ?_) | refine V.a7 ?_ | refine V.a8 ?_ | refine V.a9 ?_ | refine V.NBoth.mk ?_ ?_ | refine V.b1 ?_ | refine V.b2 ?_ | refine V.NTF.dec ?_ | refine V.b3 ?_ | refine V.b4 ?_ | (refine V.NCall.inl (f := 92) V.Tok V.mixed Tryz.func92 rfl Tryz.ntmps92 (by kernel_rfl) rfl ?_) | ((first | refine V.Fn.k (ck) [0] rfl ?_ ?_ | refine V.Fn.q (ck) [0] rfl ?_ ?_ | refine V.Fn.a (ck) [0] rfl ?_ ?_); · exact V.D_) | (first | refine V.Fn.k0 (v_fcheck f) rfl ?_ | refine V.Fn.q0 (v_fcheck f) rfl ?_ | refine V.Fn.a0 (v_fcheck f) rfl ?_) | (refine V.NDraw.any (by kernel_rfl) ?_) | fail)
      all_goals (conv => whnf)
      all_goals exact ⟨rfl, rfl, trivial⟩
  · have s3 := Ag.s0_1 (f := f) (n := n) h1
    have e := (Ag.sE_1 (c := c) (t := t) (f := f) (n := n) (by omega)).trans s3
    rw [e, (Ag.sV_no (by omega)).1]
    refine V.Fn.mk_ V.Tok V.mixed Tryz.func36 rfl Tryz.ntmps36 (by kernel_rfl) rfl rfl ?_
    repeat' ((conv => whnf); first | (refine V.NIf.yes ?_ ?_; · (decide; done)) | (refine V.NIf.no ?_ ?_; · (decide; done)) | refine V.NCond.mk ?_ | refine V.NPick.l ?_ | refine V.NIf.not_ ?_ | refine V.NIf.dec_ ?_ | refine V.a4 ?_ | refine V.a5 ?_ | refine V.NIf.mk (fun _ => ?_) (fun _ => ?_) | refine V.a7 ?_ | refine V.a8 ?_ | refine V.a9 ?_ | refine V.NBoth.mk ?_ ?_ | refine V.b1 ?_ | refine V.b2 ?_ | refine V.NTF.dec ?_ | refine V.b3 ?_ | refine V.b4 ?_ | (refine V.NCall.inl (f := 92) V.Tok V.mixed Tryz.func92 rfl Tryz.ntmps92 (by kernel_rfl) rfl ?_) | ((first | refine V.Fn.k (ck) [0] rfl ?_ ?_ | refine V.Fn.q (ck) [0] rfl ?_ ?_ | refine V.Fn.a (ck) [0] rfl ?_ ?_); · exact V.D_) | (refine V.NDraw.any (by kernel_rfl) ?_) | fail)
    all_goals (conv => whnf)
    all_goals exact ⟨rfl, rfl, trivial⟩
end Go.Proofs.YtpanlcnoopmchaaGreat

namespace Go.Proofs.YtpanlcnoopmchaaGreat
open Go Go.RowKit V
theorem v_ragDays (c : Cl) (t : Tm) (day : Int) (h : Ca.Ok c) (hw : Ag.Wi t) (hd : Ca.Day day) : V.Fn Tryz.prog 111 [.arr 1 c.hs.length (ga e1 c.hs)] [.agg [.val (.int .i64 c.we), .ref 0], .agg [.val (.int .i64 t.ex), .val (.int .i64 t.bu), .val (.int .i64 t.de), .val (.int .i64 t.ra)], .one (.val (.int .i64 day))] (.tuple #[.int .i64 (Ag.rA c t day), .int .i64 (Ag.rB c t day), .int .i64 (Ag.rD c t day)]) := by
  obtain ⟨w1, w2, w3, w4⟩ := hw
  obtain ⟨q1, q2⟩ := Ag.d_day (c := c) (t := t) hd
  have s1 := v_rcaStep c day t.ex h hd (by omega)
  have s2 := fun z => v_rcaStep c (Ag.d1 c t day) t.bu h z (by omega)
  have s3 := fun z => v_rcaStep c (Ag.d2 c t day) t.de h z (by omega)
  have th : Ag.There c t day ↔ (0 ≤ Ag.d1 c t day ∧ 0 ≤ Ag.d2 c t day ∧ 0 ≤ Ag.d3 c t day) := Iff.rfl
  have ry := fun q => Ag.r_yes (th.2 q)
  have rn : ¬ (0 ≤ Ag.d1 c t day ∧ 0 ≤ Ag.d2 c t day ∧ 0 ≤ Ag.d3 c t day) → Ag.rA c t day = -1 ∧ Ag.rB c t day = -1 ∧ Ag.rD c t day = -1 := fun q => Ag.r_no (fun z => q (th.1 z))
  rw [show Ca.stp c day t.ex = Ag.d1 c t day from rfl] at s1
  rw [show Ca.stp c (Ag.d1 c t day) t.bu = Ag.d2 c t day from rfl] at s2
  rw [show Ca.stp c (Ag.d2 c t day) t.de = Ag.d3 c t day from rfl] at s3
  generalize Ag.rA c t day = ra at *
  generalize Ag.rB c t day = rb at *
  generalize Ag.rD c t day = rd at *
  clear th
  refine V.Fn.mk_ V.Tok V.mixed Tryz.func111 rfl Tryz.ntmps111 (by kernel_rfl) rfl rfl ?_
  repeat' ((conv => whnf); first | refine V.NCond.mk ?_ | refine V.NPick.l ?_ | refine V.NIf.not_ ?_ | refine V.NIf.dec_ ?_ | refine V.a4 ?_ | refine V.a5 ?_ | refine V.NIf.mk (fun _ => ?_) (fun _ => ?_) | refine V.a7 ?_ | refine V.a8 ?_ | refine V.a9 ?_ | refine V.NBoth.mk ?_ ?_ | refine V.b1 ?_ | refine V.b2 ?_ | refine V.NTF.dec ?_ | refine V.b3 ?_ | refine V.b4 ?_ | ((first | refine V.Fn.k (s1) [0] rfl ?_ ?_ | refine V.Fn.q (s1) [0] rfl ?_ ?_ | refine V.Fn.a (s1) [0] rfl ?_ ?_); · exact V.D_) | ((first | refine V.Fn.k (s2 (q1 (by omega))) [0] rfl ?_ ?_ | refine V.Fn.q (s2 (q1 (by omega))) [0] rfl ?_ ?_ | refine V.Fn.a (s2 (q1 (by omega))) [0] rfl ?_ ?_); · exact V.D_) | ((first | refine V.Fn.k (s3 (q2 (by omega) (by omega))) [0] rfl ?_ ?_ | refine V.Fn.q (s3 (q2 (by omega) (by omega))) [0] rfl ?_ ?_ | refine V.Fn.a (s3 (q2 (by omega) (by omega))) [0] rfl ?_ ?_); · exact V.D_) | (refine V.NDraw.any (by kernel_rfl) ?_) | fail)
  all_goals (conv => whnf)
  all_goals first
    | (obtain ⟨a, b, d⟩ := ry ⟨by omega, by omega, by omega⟩; exact ⟨V.fin1 a, V.fin1 b, V.fin1 d, trivial⟩)
    | (obtain ⟨a, b, d⟩ := rn (fun z => by omega); exact ⟨V.fin1 a, V.fin1 b, V.fin1 d, trivial⟩)
    | trace_state
theorem v_ragErr (c : Cl) (t : Tm) (f : Fl) (n : Int) (hc : c.hs.length ≤ 9223372036854775807) : V.Fn Tryz.prog 106 [.arr 1 c.hs.length (ga e1 c.hs)] [.agg [.val (.int .i64 c.we), .ref 0], .agg [.val (.int .i64 t.ex), .val (.int .i64 t.bu), .val (.int .i64 t.de), .val (.int .i64 t.ra)], .agg [.val (.int .i64 f.id), .val (.int .i64 f.fr), .val (.int .i64 f.to), .val (.int .i64 f.cl), .val (.int .i64 f.pa), .val (.int .i64 f.day), .val (.int .i64 f.un), .val (.int .i64 f.de), .val (.int .i64 f.bo), .val (.int .i64 f.pd)], .one (.val (.int .i64 n))] (.int .i64 (Ag.sE c t f n)) := by
  have c1 := v_rcaCheck c hc
  have c2 := v_rtmCheck t
  have c3 := v_rfcheck f
  by_cases h1 : Ca.chk c = 0
  · by_cases h2 : Ag.tchk t = 0
    · have h12 : Ag.ck c t = 0 := (Ag.ck_2 h1).trans h2
      by_cases h3 : F.chk f = 0
      · have s3 := Ag.s0_3 (n := n) h12 h3
        have rd := v_ragDays c t f.day (Ca.chk_ok h1) (Ag.tchk_ok h2) (Ag.f_day h3)
        by_cases h4 : Ca.Day n
        · rw [D.chk_yes h4.1 h4.2] at s3
          unfold Ca.Day at h4
          have e : (0 ≤ Ag.rA c t f.day ∧ Ag.sE c t f n = 0) ∨ (Ag.rA c t f.day < 0 ∧ Ag.sE c t f n = 8) := by
            by_cases h5 : Ag.There c t f.day
            · exact .inl ⟨by rw [(Ag.r_yes h5).1]; exact h5.1, Ag.sE_3 s3 h5⟩
            · exact .inr ⟨by rw [(Ag.r_no h5).1]; decide, Ag.sE_2 s3 h5⟩
          rw [h1] at c1
          rw [h2] at c2
          rw [h3] at c3
          refine V.Fn.mk_ V.Tok V.mixed Tryz.func106 rfl Tryz.ntmps106 (by kernel_rfl) rfl rfl ?_
          repeat' ((conv => whnf); first | (refine V.NIf.yes ?_ ?_; · (decide; done)) | (refine V.NIf.no ?_ ?_; · (decide; done)) | refine V.NCond.mk ?_ | refine V.NPick.l ?_ | refine V.NIf.not_ ?_ | refine V.NIf.dec_ ?_ | refine V.a4 ?_ | refine V.a5 ?_ | refine V.NIf.mk (fun _ => ?_) (fun _ => ?_) | refine V.a7 ?_ | refine V.a8 ?_ | refine V.a9 ?_ | refine V.NBoth.mk ?_ ?_ | refine V.b1 ?_ | refine V.b2 ?_ | refine V.NTF.dec ?_ | refine V.b3 ?_ | refine V.b4 ?_ | ((first | refine V.Fn.k (c1) [0] rfl ?_ ?_ | refine V.Fn.q (c1) [0] rfl ?_ ?_ | refine V.Fn.a (c1) [0] rfl ?_ ?_); · exact V.D_) | (first | refine V.Fn.k0 (c2) rfl ?_ | refine V.Fn.q0 (c2) rfl ?_ | refine V.Fn.a0 (c2) rfl ?_) | (first | refine V.Fn.k0 (c3) rfl ?_ | refine V.Fn.q0 (c3) rfl ?_ | refine V.Fn.a0 (c3) rfl ?_) | (first | refine V.Fn.k0 (v_rbetween _ _ _) rfl ?_ | refine V.Fn.q0 (v_rbetween _ _ _) rfl ?_ | refine V.Fn.a0 (v_rbetween _ _ _) rfl ?_) | ((first | refine V.Fn.k (rd) [0] rfl ?_ ?_ | refine V.Fn.q (rd) [0] rfl ?_ ?_ | refine V.Fn.a (rd) [0] rfl ?_ ?_); · exact V.D_) | (refine V.NDraw.any (by kernel_rfl) ?_) | fail)
          all_goals (conv => whnf)
          all_goals exact V.fin1 (by omega)
        · rw [D.chk_no h4] at s3
          unfold Ca.Day at h4
          have e := (Ag.sE_1 (c := c) (t := t) (f := f) (n := n) (by omega)).trans s3
          rw [e]
          rw [h1] at c1
          rw [h2] at c2
          rw [h3] at c3
          refine V.Fn.mk_ V.Tok V.mixed Tryz.func106 rfl Tryz.ntmps106 (by kernel_rfl) rfl rfl ?_
          repeat' ((conv => whnf); first | (refine V.NIf.yes ?_ ?_; · (decide; done)) | (refine V.NIf.no ?_ ?_; · (decide; done)) | refine V.NCond.mk ?_ | refine V.NPick.l ?_ | refine V.NIf.not_ ?_ | refine V.NIf.dec_ ?_ | refine V.a4 ?_ | refine V.a5 ?_ | refine V.NIf.mk (fun _ => ?_) (fun _ => ?_) | refine V.a7 ?_ | refine V.a8 ?_ | refine V.a9 ?_ | refine V.NBoth.mk ?_ ?_ | refine V.b1 ?_ | refine V.b2 ?_ | refine V.NTF.dec ?_ | refine V.b3 ?_ | refine V.b4 ?_ | ((first | refine V.Fn.k (c1) [0] rfl ?_ ?_ | refine V.Fn.q (c1) [0] rfl ?_ ?_ | refine V.Fn.a (c1) [0] rfl ?_ ?_); · exact V.D_) | (first | refine V.Fn.k0 (c2) rfl ?_ | refine V.Fn.q0 (c2) rfl ?_ | refine V.Fn.a0 (c2) rfl ?_) | (first | refine V.Fn.k0 (c3) rfl ?_ | refine V.Fn.q0 (c3) rfl ?_ | refine V.Fn.a0 (c3) rfl ?_) | (first | refine V.Fn.k0 (v_rbetween _ _ _) rfl ?_ | refine V.Fn.q0 (v_rbetween _ _ _) rfl ?_ | refine V.Fn.a0 (v_rbetween _ _ _) rfl ?_) | (refine V.NDraw.any (by kernel_rfl) ?_) | fail)
          all_goals (conv => whnf)
          all_goals first
            | exact V.fin1 rfl
            | (exfalso; omega)
      · have s3 := Ag.s0_2 (n := n) h12 h3
        have e := (Ag.sE_1 (c := c) (t := t) (f := f) (n := n) (by omega)).trans s3
        rw [e]
        rw [h1] at c1
        rw [h2] at c2
        refine V.Fn.mk_ V.Tok V.mixed Tryz.func106 rfl Tryz.ntmps106 (by kernel_rfl) rfl rfl ?_
        repeat' ((conv => whnf); first | (refine V.NIf.yes ?_ ?_; · (decide; done)) | (refine V.NIf.no ?_ ?_; · (decide; done)) | refine V.NCond.mk ?_ | refine V.NPick.l ?_ | refine V.NIf.not_ ?_ | refine V.NIf.dec_ ?_ | refine V.a4 ?_ | refine V.a5 ?_ | refine V.NIf.mk (fun _ => ?_) (fun _ => ?_) | refine V.a7 ?_ | refine V.a8 ?_ | refine V.a9 ?_ | refine V.NBoth.mk ?_ ?_ | refine V.b1 ?_ | refine V.b2 ?_ | refine V.NTF.dec ?_ | refine V.b3 ?_ | refine V.b4 ?_ | ((first | refine V.Fn.k (c1) [0] rfl ?_ ?_ | refine V.Fn.q (c1) [0] rfl ?_ ?_ | refine V.Fn.a (c1) [0] rfl ?_ ?_); · exact V.D_) | (first | refine V.Fn.k0 (c2) rfl ?_ | refine V.Fn.q0 (c2) rfl ?_ | refine V.Fn.a0 (c2) rfl ?_) | (first | refine V.Fn.k0 (c3) rfl ?_ | refine V.Fn.q0 (c3) rfl ?_ | refine V.Fn.a0 (c3) rfl ?_) | (refine V.NDraw.any (by kernel_rfl) ?_) | fail)
        all_goals (conv => whnf)
        all_goals exact V.fin1 rfl
    · have h12 : ¬ Ag.ck c t = 0 := by rw [Ag.ck_2 h1]; exact h2
      have e := (Ag.sE_1 (c := c) (t := t) (f := f) (n := n) (by rw [Ag.s0_1 h12]; exact h12)).trans ((Ag.s0_1 h12).trans (Ag.ck_2 h1))
      rw [e]
      rw [h1] at c1
      refine V.Fn.mk_ V.Tok V.mixed Tryz.func106 rfl Tryz.ntmps106 (by kernel_rfl) rfl rfl ?_
      repeat' ((conv => whnf); first | (refine V.NIf.yes ?_ ?_; · (decide; done)) | (refine V.NIf.no ?_ ?_; · (decide; done)) | refine V.NCond.mk ?_ | refine V.NPick.l ?_ | refine V.NIf.not_ ?_ | refine V.NIf.dec_ ?_ | refine V.a4 ?_ | refine V.a5 ?_ | refine V.NIf.mk (fun _ => ?_) (fun _ => ?_) | refine V.a7 ?_ | refine V.a8 ?_ | refine V.a9 ?_ | refine V.NBoth.mk ?_ ?_ | refine V.b1 ?_ | refine V.b2 ?_ | refine V.NTF.dec ?_ | refine V.b3 ?_ | refine V.b4 ?_ | ((first | refine V.Fn.k (c1) [0] rfl ?_ ?_ | refine V.Fn.q (c1) [0] rfl ?_ ?_ | refine V.Fn.a (c1) [0] rfl ?_ ?_); · exact V.D_) | (first | refine V.Fn.k0 (c2) rfl ?_ | refine V.Fn.q0 (c2) rfl ?_ | refine V.Fn.a0 (c2) rfl ?_) | (refine V.NDraw.any (by kernel_rfl) ?_) | fail)
      all_goals (conv => whnf)
      all_goals exact V.fin1 rfl
  · have h12 : ¬ Ag.ck c t = 0 := by rw [Ag.ck_1 h1]; exact h1
    have e := (Ag.sE_1 (c := c) (t := t) (f := f) (n := n) (by rw [Ag.s0_1 h12]; exact h12)).trans ((Ag.s0_1 h12).trans (Ag.ck_1 h1))
    rw [e]
    refine V.Fn.mk_ V.Tok V.mixed Tryz.func106 rfl Tryz.ntmps106 (by kernel_rfl) rfl rfl ?_
    repeat' ((conv => whnf); first | refine V.NCond.mk ?_ | refine V.NPick.l ?_ | refine V.NIf.not_ ?_ | refine V.NIf.dec_ ?_ | refine V.a4 ?_ | refine V.a5 ?_ | refine V.NIf.mk (fun _ => ?_) (fun _ => ?_) | refine V.a7 ?_ | refine V.a8 ?_ | refine V.a9 ?_ | refine V.NBoth.mk ?_ ?_ | refine V.b1 ?_ | refine V.b2 ?_ | refine V.NTF.dec ?_ | refine V.b3 ?_ | refine V.b4 ?_ | ((first | refine V.Fn.k (c1) [0] rfl ?_ ?_ | refine V.Fn.q (c1) [0] rfl ?_ ?_ | refine V.Fn.a (c1) [0] rfl ?_ ?_); · exact V.D_) | (refine V.NDraw.any (by kernel_rfl) ?_) | fail)
    all_goals (conv => whnf)
    all_goals exact V.fin1 rfl
theorem v_ragStage (c : Cl) (t : Tm) (f : Fl) (n : Int) (h : Ag.sE c t f n = 0) : V.Fn Tryz.prog 50 [.arr 1 c.hs.length (ga e1 c.hs)] [.agg [.val (.int .i64 c.we), .ref 0], .agg [.val (.int .i64 t.ex), .val (.int .i64 t.bu), .val (.int .i64 t.de), .val (.int .i64 t.ra)], .agg [.val (.int .i64 f.id), .val (.int .i64 f.fr), .val (.int .i64 f.to), .val (.int .i64 f.cl), .val (.int .i64 f.pa), .val (.int .i64 f.day), .val (.int .i64 f.un), .val (.int .i64 f.de), .val (.int .i64 f.bo), .val (.int .i64 f.pd)], .one (.val (.int .i64 n))] (.int .i64 (Ag.stg c t f n)) := by
  obtain ⟨h1, hw, hf, hd, hth⟩ := Ag.sE_ok h
  obtain ⟨g1, g2, g3⟩ := Ag.days hw (Ag.f_day hf) hth
  have ok := F.chk_ok hf
  have fo := v_rfopen f ⟨ok.1, ok.2.2.1⟩
  have rd := v_ragDays c t f.day (Ca.chk_ok h1) hw (Ag.f_day hf)
  rw [(Ag.r_yes hth).1, (Ag.r_yes hth).2.1, (Ag.r_yes hth).2.2] at rd
  obtain ⟨s1, s2⟩ := Ag.stg_is h
  refine V.Fn.mk_ V.Tok V.mixed Tryz.func50 rfl Tryz.ntmps50 (by kernel_rfl) rfl rfl ?_
  repeat' ((conv => whnf); first | refine V.NCond.mk ?_ | refine V.NPick.l ?_ | refine V.NIf.not_ ?_ | refine V.NIf.dec_ ?_ | refine V.a4 ?_ | refine V.a5 ?_ | refine V.NIf.mk (fun _ => ?_) (fun _ => ?_) | refine V.a7 ?_ | refine V.a8 ?_ | refine V.a9 ?_ | refine V.NBoth.mk ?_ ?_ | refine V.b1 ?_ | refine V.b2 ?_ | refine V.NTF.dec ?_ | refine V.b3 ?_ | refine V.b4 ?_ | (first | refine V.Fn.k0 (fo) rfl ?_ | refine V.Fn.q0 (fo) rfl ?_ | refine V.Fn.a0 (fo) rfl ?_) | ((first | refine V.Fn.k (rd) [0] rfl ?_ ?_ | refine V.Fn.q (rd) [0] rfl ?_ ?_ | refine V.Fn.a (rd) [0] rfl ?_ ?_); · exact V.D_) | (refine V.NDraw.any (by kernel_rfl) ?_) | fail)
  all_goals (conv => whnf)
  · exact V.fin1 (s1 (by assumption))
  all_goals obtain ⟨t1, t2, t3, t4, t5⟩ := s2 (by assumption)
  all_goals first
    | exact V.fin1 (t1 (by assumption))
    | exact V.fin1 (t2 (by omega) (by assumption))
    | exact V.fin1 (t3 (by omega) (by assumption))
    | exact V.fin1 (t4 (by omega) (by assumption))
    | exact V.fin1 (t5 (by omega))
end Go.Proofs.YtpanlcnoopmchaaGreat
