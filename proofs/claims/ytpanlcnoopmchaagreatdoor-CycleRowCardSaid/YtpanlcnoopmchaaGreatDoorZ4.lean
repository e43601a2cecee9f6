/- Shared texts, one behind the other: VNet2, VSumOf, VNet3, TermPl, CalPl2, FailPl2, FailPl3, AgePl, CalPl3, VFail, VFailM, VFailL, VFailB, AgePl2, PenPl, VMoneyR, VPrice, VRange, VCal, DateCk, DateW, DateRW, DateRM, VDate, VCal2, VAge, VAgeR, VPen, VPen4, NetPl2, PenPl4, PenPl3, VFam, StPl, StQ, StQ2, StQ3, StQ4, StQ5, StQ6, StQ7 -/
import Derived.Maps.OwnSet
import Derived.Maps.AppendAt
import Derived.Sort.LotA
import Derived.Test.YtpanlcnoopmchaaGreatDoorZ1
import Derived.Test.YtpanlcnoopmchaaGreatDoorZ2
import Derived.Test.YtpanlcnoopmchaaGreatDoorZ3
set_option linter.unusedVariables false
set_option linter.unusedSimpArgs false
set_option maxRecDepth 100000

namespace Go.Proofs.YtpanlcnoopmchaaGreatDoor
open Go Go.RowKit V
theorem nilAt {n p : Nat} {v : Value} (h : p < n) : List.take 1 (List.drop (p * 1) (List.replicate n v)) = [v] := by
  rw [Nat.mul_one, List.drop_replicate, List.take_replicate, show min 1 (n - p) = 1 by omega]; rfl
theorem rwsStep {l : List Du} {k f t : Nat} (hlt : k < l.length) (hf : (l.getD k default).fr = f) (ht : (l.getD k default).to = t) (hne : t ≠ f) {p m : Nat} {g' : Nat → List Value} (h : some ((Nt.part (l.take (k + 1)) p).length, ga e1 (Nt.part (l.take (k + 1)) p)) = some (m, g')) :
    ∃ g, putX (putX (putX (putX (fun p => some ((Nt.part (l.take k) p).length, ga e1 (Nt.part (l.take k) p))) f none) t none) f (some ((Nt.part (l.take k) f ++ [0 - (l.getD k default).am]).length, ga e1 (Nt.part (l.take k) f ++ [0 - (l.getD k default).am])))) t (some ((Nt.part (l.take k) t ++ [(l.getD k default).am]).length, ga e1 (Nt.part (l.take k) t ++ [(l.getD k default).am]))) p = some (m, g) ∧ ∀ j, j < m → g j = g' j := by
  refine ⟨g', ?_, fun _ _ => rfl⟩
  rw [← h, Nt.part_take hlt]
  unfold putX
  by_cases e : p = t
  · subst e
    rw [if_pos rfl, show Nt.one p (l.getD k default) = [(l.getD k default).am] by unfold Nt.one; rw [if_neg (by omega), if_pos ht]; rfl]
  · rw [if_neg e]
    by_cases e2 : p = f
    · subst e2
      rw [if_pos rfl, show Nt.one p (l.getD k default) = [0 - (l.getD k default).am] by unfold Nt.one; rw [if_pos hf, if_neg (by omega), Int.zero_sub]; rfl]
    · rw [if_neg e2, if_neg e, if_neg e2, show Nt.one p (l.getD k default) = [] by unfold Nt.one; rw [if_neg (by omega), if_neg (by omega)]; rfl, List.append_nil]
theorem valsTo_get (vs : Nat → Value) : ∀ (n k p : Nat), p < n → (valsTo vs k n)[p]? = some (.val (vs (k + p)))
  | 0, _, _, h => absurd h (Nat.not_lt_zero _)
  | n + 1, k, 0, _ => rfl
  | n + 1, k, p + 1, h => by
    show (valsTo vs (k + 1) n)[p]? = _
    rw [valsTo_get vs n (k + 1) p (by omega), show k + 1 + p = k + (p + 1) by omega]
theorem rwsOut {k p m : Nat} {Y : Nat → Nat × (Nat → List Value)} {g : Nat → List Value} (h : (if p < k + 1 then none else some (Y p)) = some (m, g)) : ∃ g', putX (fun p => if p < k then none else some (Y p)) k none p = some (m, g') ∧ ∀ j, j < m → g' j = g j := by
  split at h
  · cases h
  · refine ⟨g, ?_, fun _ _ => rfl⟩
    unfold putX
    rw [if_neg (by omega)]
    exact (if_neg (by omega)).trans h
theorem vals0 (vs : Nat → Value) {n p : Nat} (h : p < n) : (valsTo vs 0 n)[p]? = some (.val (vs p)) := by rw [valsTo_get vs n 0 p h, Nat.zero_add]
set_option maxHeartbeats 4000000 in
theorem v_stand (l : List Du) (hn : l.length ≤ 9223372036854775807) : V.FnR Tryz.prog 77 [.arr 3 l.length (ga encD l)] [.one (.ref 0)] (.tup [.one (.ref 1), .one (.val (.int .i64 (Nt.stE l)))]) [.row 3 1 (Nt.st l).length (ga e1 (Nt.st l))] := by
  refine V.FnR.mk_ V.Tok V.mixed Tryz.func77 rfl Tryz.ntmps77 (by kernel_rfl) rfl rfl rfl rfl ?_
  repeat' ((conv => whnf); first | refine V.NCond.mk ?_ | refine V.NPick.l ?_ | refine V.NIf.not_ ?_ | refine V.NIf.dec_ ?_ | refine V.a4 ?_ | refine V.a5 ?_ | refine V.NIf.mk (fun _ => ?_) (fun _ => ?_) | refine V.a7 ?_ | refine V.a8 ?_ | refine V.a9 ?_ | refine V.NBoth.mk ?_ ?_ | refine V.b1 ?_ | refine V.b2 ?_ | refine V.NTF.dec ?_ | refine V.b3 ?_ | refine V.b4 ?_ | ((first | refine V.Fn.k (v_ncheck _ hn) [0] rfl ?_ ?_ | refine V.Fn.q (v_ncheck _ hn) [0] rfl ?_ ?_ | refine V.Fn.a (v_ncheck _ hn) [0] rfl ?_ ?_); · exact V.D_) | (refine V.NDraw.any (by kernel_rfl) ?_) | fail)
  all_goals (conv => whnf)
  rotate_left
  · have e : Nt.stE l = N.chk l := if_pos (by omega)
    rw [show Nt.st l = [] from if_neg (by omega), e]
    (first | exact V.er 0 | exact V.er 1 | exact V.er 2 | exact V.er 3 | exact V.er 4 | exact V.er 5 | exact V.er 6 | exact V.er 7 | exact V.er 8 | exact V.er 9 | exact V.er 10 | exact V.er 11 | exact V.er 12 | exact V.er 13 | exact V.er 14 | exact V.er 15 | exact V.er 16 | exact V.er 17)
  have h0 : N.chk l = 0 := by omega
  obtain ⟨h60, hck⟩ := N.chk_ok h0
  refine V.NLoop.auto (fun (⟨k, vs⟩ : Nat × (Nat → Value)) => [(20, .one (.val (.int .i64 k)))]) (fun (⟨k, vs⟩ : Nat × (Nat → Value)) => [(2, .rws 150 3 1 31 vs fun p => some ((Nt.part (l.take k) p).length, ga e1 (Nt.part (l.take k) p)))]) [] [] (fun (⟨k, vs⟩ : Nat × (Nat → Value)) => l.length - k) (fun (⟨k, vs⟩ : Nat × (Nat → Value)) => k ≤ l.length) (0, fun _ => .slice none 0 0) (Nat.zero_le _) V.S_ (by (conv => whnf); exact ⟨⟨rfl, rfl, rfl, fun p hp => ⟨nilAt (n := 31) hp, fun m g h => ⟨rfl, (Prod.mk.inj (Option.some.inj h)).1.symm⟩⟩⟩, trivial⟩) (fun _ => ⟨rfl, rfl⟩) ?_; (conv => whnf); refine ⟨⟨rfl, rfl⟩, ?_⟩
  rintro ⟨k, vs⟩ hk
  replace hk : k ≤ l.length := hk
  by_cases hlt : k < l.length
  · have ok := N.ck_ok (hck _ (getD_mem hlt))
    obtain ⟨f, hf⟩ : ∃ f : Nat, (l.getD k default).fr = f := ⟨_, (Int.toNat_of_nonneg (by omega)).symm⟩
    obtain ⟨t, ht⟩ : ∃ t : Nat, (l.getD k default).to = t := ⟨_, (Int.toNat_of_nonneg (by omega)).symm⟩
    have hne : t ≠ f := fun e => by omega
    have l1 := Nt.part_len (l.take k) f
    have l2 := Nt.part_len (l.take k) t
    rw [List.length_take] at l1 l2
    repeat' ((conv => whnf); first | (refine NDraw.preR (by kernel_rfl) (Redo.out 2 f rfl (by omega) rfl (Redo.out 2 t rfl (by omega) (if_neg hne) (Redo.refl _ _ _ _))) ?_) | refine V.NCond.mk ?_ | refine V.NPick.l ?_ | refine V.NIf.not_ ?_ | refine V.NIf.dec_ ?_ | refine V.a4 ?_ | refine V.a5 ?_ | refine V.NIf.mk (fun _ => ?_) (fun _ => ?_) | refine V.a7 ?_ | refine V.a8 ?_ | refine V.a9 ?_ | refine V.NBoth.mk ?_ ?_ | refine V.b1 ?_ | refine V.b2 ?_ | refine V.NTF.dec ?_ | refine V.b3 ?_ | refine V.b4 ?_ | (refine NIdx.mk ⟨_, rfl, by omega, ?_⟩) | (refine NIdx.mk ⟨f, hf, by omega, ?_⟩) | (refine NIdx.mk ⟨t, ht, by omega, ?_⟩) | (refine NSrc.mk (.inr ⟨4, _, _, _, _, rfl, ?_⟩)) | (refine NSrc.mk (.inr ⟨5, _, _, _, _, rfl, ?_⟩)) | (refine NSame.mk rfl ?_) | (refine NAny.mk fun v => ?_) | (refine V.NDraw.any (by kernel_rfl) ?_) | fail)
    all_goals (conv => whnf)
    all_goals exact V.NBack.at_ (k + 1, _) [] (by show k + 1 ≤ l.length; omega) (by show l.length - (k + 1) < l.length - k; omega) V.S_ rfl ⟨⟨rfl, rfl, rfl, rfl, fun p hp => ⟨rfl, fun m g h => rwsStep hlt hf ht hne h⟩⟩, trivial⟩ V.S_ V.S_
  obtain rfl : k = l.length := by omega
  repeat' ((conv => whnf); first | refine V.NCond.mk ?_ | refine V.NPick.l ?_ | refine V.NIf.not_ ?_ | refine V.NIf.dec_ ?_ | refine V.a4 ?_ | refine V.a5 ?_ | refine V.NIf.mk (fun _ => ?_) (fun _ => ?_) | refine V.a7 ?_ | refine V.a8 ?_ | refine V.a9 ?_ | refine V.NBoth.mk ?_ ?_ | refine V.b1 ?_ | refine V.b2 ?_ | refine V.NTF.dec ?_ | refine V.b3 ?_ | refine V.b4 ?_ | (refine NMake.mk ⟨31, 31, rfl, rfl, by omega, by omega, by first | omega | decide | (simp; done) | (simp; omega), ?_⟩) | (refine V.NDraw.any (by kernel_rfl) ?_) | fail)
  all_goals (conv => whnf)
  refine V.NLoop.auto (fun (k : Nat) => [(50, .one (.val (.int .i64 k))), (8, .one (.ref 3))]) (fun (k : Nat) => [(2, .rws 150 3 1 31 vs fun p => if p < k then none else some ((Nt.part l p).length, ga e1 (Nt.part l p))), (3, .row 3 1 31 fun j => e1 (if j < k then M.sum (Nt.part l j) else 0))]) [] [] (fun (k : Nat) => 31 - k) (fun (k : Nat) => k ≤ 31 ∧ ∀ p, p < k → M.Amt (M.sum (Nt.part l p))) 0 ⟨by omega, fun p h => absurd h (Nat.not_lt_zero _)⟩ V.S_ (by (conv => whnf); exact ⟨⟨rfl, rfl, rfl, rfl, fun p hp => ⟨rfl, fun m g h => ⟨_, by rw [← h, List.take_length]; exact (if_neg (Nat.not_lt_zero p)).symm, fun _ _ => rfl⟩⟩⟩, ⟨rfl, rfl, rfl, fun j hj => (congrArg e1 (if_neg (Nat.not_lt_zero j))).symm⟩, trivial⟩) (fun _ => ⟨rfl, rfl⟩) ?_; (conv => whnf); refine ⟨⟨rfl, rfl⟩, ?_⟩
  rintro k ⟨hk, hJ⟩
  by_cases hlt : k < 31
  · have ln := Nt.part_len l k
    have pa := Nt.part_amt hck (p := k)
    repeat' ((conv => whnf); first | refine V.NCond.mk ?_ | refine V.NPick.l ?_ | refine V.NIf.not_ ?_ | refine V.NIf.dec_ ?_ | refine V.a4 ?_ | refine V.a5 ?_ | refine V.NIf.mk (fun _ => ?_) (fun _ => ?_) | refine V.a7 ?_ | refine V.a8 ?_ | refine V.a9 ?_ | refine V.NBoth.mk ?_ ?_ | refine V.b1 ?_ | refine V.b2 ?_ | refine V.NTF.dec ?_ | refine V.b3 ?_ | refine V.b4 ?_ | (refine NSel.mk ⟨k, _, rfl, vals0 vs hlt, ?_⟩) | (refine NCall.see 0 2 k rfl (by omega) (if_neg (Nat.lt_irrefl k)) rfl ?_) | ((first | refine V.Fn.k (v_ntotal (Nt.part l k) (by omega) pa) [4] rfl ?_ ?_ | refine V.Fn.q (v_ntotal (Nt.part l k) (by omega) pa) [4] rfl ?_ ?_ | refine V.Fn.a (v_ntotal (Nt.part l k) (by omega) pa) [4] rfl ?_ ?_); · exact V.D_) | (refine NIdx.mk ⟨k, rfl, by omega, ?_⟩) | (refine NPut.mk ⟨fun j => e1 (if j < k + 1 then M.sum (Nt.part l j) else 0), ?_, ?_⟩) | (refine V.NDraw.any (by kernel_rfl) ?_) | fail)
    all_goals (conv => whnf)
    · intro j hj
      rw [Nt.tov_amt pa (by assumption)]
      by_cases e : j = k
      · subst e
        rw [if_pos rfl]
        show e1 _ = _
        rw [if_pos (by omega)]
        rfl
      · rw [if_neg e]
        by_cases e2 : j < k
        · show e1 _ = e1 _
          rw [if_pos (by omega), if_pos e2]
        · show e1 _ = e1 _
          rw [if_neg (by omega), if_neg e2]
    · have hA : M.Amt (M.sum (Nt.part l k)) := by assumption
      exact V.NBack.at_ (k + 1) [] ⟨by omega, fun p hp => (Nat.lt_succ_iff_lt_or_eq.1 hp).elim (hJ p) (fun e => e ▸ hA)⟩ (by omega) V.S_ rfl ⟨⟨rfl, rfl, rfl, rfl, fun p hp => ⟨rfl, fun m g h => rwsOut h⟩⟩, ⟨rfl, rfl, rfl, fun _ _ => rfl⟩, trivial⟩ V.S_ V.S_
    · have hA : ¬ M.Amt (M.sum (Nt.part l k)) := by assumption
      have e : Nt.stE l = 8 := Nt.stE_no h0 fun w => hA (w k hlt)
      rw [show Nt.st l = [] from if_neg (by omega), e]
      (first | exact V.er 0 | exact V.er 1 | exact V.er 2 | exact V.er 3 | exact V.er 4 | exact V.er 5 | exact V.er 6 | exact V.er 7 | exact V.er 8 | exact V.er 9 | exact V.er 10 | exact V.er 11 | exact V.er 12 | exact V.er 13 | exact V.er 14 | exact V.er 15 | exact V.er 16 | exact V.er 17)
  obtain rfl : k = 31 := by omega
  have e : Nt.stE l = 0 := Nt.stE_ok h0 hJ
  rw [show Nt.st l = Nt.sums l 31 from if_pos e, e]
  repeat' ((conv => whnf); first | refine V.NCond.mk ?_ | refine V.NPick.l ?_ | refine V.NIf.not_ ?_ | refine V.NIf.dec_ ?_ | refine V.a4 ?_ | refine V.a5 ?_ | refine V.NIf.mk (fun _ => ?_) (fun _ => ?_) | refine V.a7 ?_ | refine V.a8 ?_ | refine V.a9 ?_ | refine V.NBoth.mk ?_ ?_ | refine V.b1 ?_ | refine V.b2 ?_ | refine V.NTF.dec ?_ | refine V.b3 ?_ | refine V.b4 ?_ | (refine V.NDraw.any (by kernel_rfl) ?_) | fail)
  all_goals (conv => whnf)
  (first | (refine NRet.mk_ [some 0] rfl ?_ ?_; (· ((repeat' (first | exact rfl | exact trivial | refine ⟨?_, ?_⟩)); done)); (· (refine ⟨?_, trivial⟩; refine ⟨rfl, rfl, by simp [Nt.sums], ?_⟩; intro j hj; show e1 _ = e1 _; rw [if_pos hj, getD_at (by simp [Nt.sums]; omega)]; simp [Nt.sums]; done))) | (refine NRet.mk_ [some 1] rfl ?_ ?_; (· ((repeat' (first | exact rfl | exact trivial | refine ⟨?_, ?_⟩)); done)); (· (refine ⟨?_, trivial⟩; refine ⟨rfl, rfl, by simp [Nt.sums], ?_⟩; intro j hj; show e1 _ = e1 _; rw [if_pos hj, getD_at (by simp [Nt.sums]; omega)]; simp [Nt.sums]; done))) | (refine NRet.mk_ [some 2] rfl ?_ ?_; (· ((repeat' (first | exact rfl | exact trivial | refine ⟨?_, ?_⟩)); done)); (· (refine ⟨?_, trivial⟩; refine ⟨rfl, rfl, by simp [Nt.sums], ?_⟩; intro j hj; show e1 _ = e1 _; rw [if_pos hj, getD_at (by simp [Nt.sums]; omega)]; simp [Nt.sums]; done))) | (refine NRet.mk_ [some 3] rfl ?_ ?_; (· ((repeat' (first | exact rfl | exact trivial | refine ⟨?_, ?_⟩)); done)); (· (refine ⟨?_, trivial⟩; refine ⟨rfl, rfl, by simp [Nt.sums], ?_⟩; intro j hj; show e1 _ = e1 _; rw [if_pos hj, getD_at (by simp [Nt.sums]; omega)]; simp [Nt.sums]; done))) | (refine NRet.mk_ [some 4] rfl ?_ ?_; (· ((repeat' (first | exact rfl | exact trivial | refine ⟨?_, ?_⟩)); done)); (· (refine ⟨?_, trivial⟩; refine ⟨rfl, rfl, by simp [Nt.sums], ?_⟩; intro j hj; show e1 _ = e1 _; rw [if_pos hj, getD_at (by simp [Nt.sums]; omega)]; simp [Nt.sums]; done))) | (refine NRet.mk_ [some 5] rfl ?_ ?_; (· ((repeat' (first | exact rfl | exact trivial | refine ⟨?_, ?_⟩)); done)); (· (refine ⟨?_, trivial⟩; refine ⟨rfl, rfl, by simp [Nt.sums], ?_⟩; intro j hj; show e1 _ = e1 _; rw [if_pos hj, getD_at (by simp [Nt.sums]; omega)]; simp [Nt.sums]; done))) | (refine NRet.mk_ [some 6] rfl ?_ ?_; (· ((repeat' (first | exact rfl | exact trivial | refine ⟨?_, ?_⟩)); done)); (· (refine ⟨?_, trivial⟩; refine ⟨rfl, rfl, by simp [Nt.sums], ?_⟩; intro j hj; show e1 _ = e1 _; rw [if_pos hj, getD_at (by simp [Nt.sums]; omega)]; simp [Nt.sums]; done))) | (refine NRet.mk_ [some 7] rfl ?_ ?_; (· ((repeat' (first | exact rfl | exact trivial | refine ⟨?_, ?_⟩)); done)); (· (refine ⟨?_, trivial⟩; refine ⟨rfl, rfl, by simp [Nt.sums], ?_⟩; intro j hj; show e1 _ = e1 _; rw [if_pos hj, getD_at (by simp [Nt.sums]; omega)]; simp [Nt.sums]; done))) | (refine NRet.mk_ [some 8] rfl ?_ ?_; (· ((repeat' (first | exact rfl | exact trivial | refine ⟨?_, ?_⟩)); done)); (· (refine ⟨?_, trivial⟩; refine ⟨rfl, rfl, by simp [Nt.sums], ?_⟩; intro j hj; show e1 _ = e1 _; rw [if_pos hj, getD_at (by simp [Nt.sums]; omega)]; simp [Nt.sums]; done))) | (refine NRet.mk_ [some 9] rfl ?_ ?_; (· ((repeat' (first | exact rfl | exact trivial | refine ⟨?_, ?_⟩)); done)); (· (refine ⟨?_, trivial⟩; refine ⟨rfl, rfl, by simp [Nt.sums], ?_⟩; intro j hj; show e1 _ = e1 _; rw [if_pos hj, getD_at (by simp [Nt.sums]; omega)]; simp [Nt.sums]; done))) | (refine NRet.mk_ [some 10] rfl ?_ ?_; (· ((repeat' (first | exact rfl | exact trivial | refine ⟨?_, ?_⟩)); done)); (· (refine ⟨?_, trivial⟩; refine ⟨rfl, rfl, by simp [Nt.sums], ?_⟩; intro j hj; show e1 _ = e1 _; rw [if_pos hj, getD_at (by simp [Nt.sums]; omega)]; simp [Nt.sums]; done))) | (refine NRet.mk_ [some 11] rfl ?_ ?_; (· ((repeat' (first | exact rfl | exact trivial | refine ⟨?_, ?_⟩)); done)); (· (refine ⟨?_, trivial⟩; refine ⟨rfl, rfl, by simp [Nt.sums], ?_⟩; intro j hj; show e1 _ = e1 _; rw [if_pos hj, getD_at (by simp [Nt.sums]; omega)]; simp [Nt.sums]; done))) | (refine NRet.mk_ [some 12] rfl ?_ ?_; (· ((repeat' (first | exact rfl | exact trivial | refine ⟨?_, ?_⟩)); done)); (· (refine ⟨?_, trivial⟩; refine ⟨rfl, rfl, by simp [Nt.sums], ?_⟩; intro j hj; show e1 _ = e1 _; rw [if_pos hj, getD_at (by simp [Nt.sums]; omega)]; simp [Nt.sums]; done))) | (refine NRet.mk_ [some 13] rfl ?_ ?_; (· ((repeat' (first | exact rfl | exact trivial | refine ⟨?_, ?_⟩)); done)); (· (refine ⟨?_, trivial⟩; refine ⟨rfl, rfl, by simp [Nt.sums], ?_⟩; intro j hj; show e1 _ = e1 _; rw [if_pos hj, getD_at (by simp [Nt.sums]; omega)]; simp [Nt.sums]; done))) | (refine NRet.mk_ [some 14] rfl ?_ ?_; (· ((repeat' (first | exact rfl | exact trivial | refine ⟨?_, ?_⟩)); done)); (· (refine ⟨?_, trivial⟩; refine ⟨rfl, rfl, by simp [Nt.sums], ?_⟩; intro j hj; show e1 _ = e1 _; rw [if_pos hj, getD_at (by simp [Nt.sums]; omega)]; simp [Nt.sums]; done))) | (refine NRet.mk_ [some 15] rfl ?_ ?_; (· ((repeat' (first | exact rfl | exact trivial | refine ⟨?_, ?_⟩)); done)); (· (refine ⟨?_, trivial⟩; refine ⟨rfl, rfl, by simp [Nt.sums], ?_⟩; intro j hj; show e1 _ = e1 _; rw [if_pos hj, getD_at (by simp [Nt.sums]; omega)]; simp [Nt.sums]; done))) | (refine NRet.mk_ [some 16] rfl ?_ ?_; (· ((repeat' (first | exact rfl | exact trivial | refine ⟨?_, ?_⟩)); done)); (· (refine ⟨?_, trivial⟩; refine ⟨rfl, rfl, by simp [Nt.sums], ?_⟩; intro j hj; show e1 _ = e1 _; rw [if_pos hj, getD_at (by simp [Nt.sums]; omega)]; simp [Nt.sums]; done))) | (refine NRet.mk_ [some 17] rfl ?_ ?_; (· ((repeat' (first | exact rfl | exact trivial | refine ⟨?_, ?_⟩)); done)); (· (refine ⟨?_, trivial⟩; refine ⟨rfl, rfl, by simp [Nt.sums], ?_⟩; intro j hj; show e1 _ = e1 _; rw [if_pos hj, getD_at (by simp [Nt.sums]; omega)]; simp [Nt.sums]; done))))
end Go.Proofs.YtpanlcnoopmchaaGreatDoor

namespace Go.Proofs.YtpanlcnoopmchaaGreatDoor
open Go Go.RowKit V
end Go.Proofs.YtpanlcnoopmchaaGreatDoor

namespace Go.Proofs.YtpanlcnoopmchaaGreatDoor
open Go Go.RowKit V
end Go.Proofs.YtpanlcnoopmchaaGreatDoor

namespace Go.Proofs.YtpanlcnoopmchaaGreatDoor
structure Tm where
  ex : Int
  bu : Int
  de : Int
  ra : Int
instance : Inhabited Tm := ⟨⟨0, 0, 0, 0⟩⟩
def encTm (p : Tm) : List Go.Value := [.int .i64 p.ex, .int .i64 p.bu, .int .i64 p.de, .int .i64 p.ra]
end Go.Proofs.YtpanlcnoopmchaaGreatDoor

namespace Go.Proofs.YtpanlcnoopmchaaGreatDoor
namespace Ca
theorem nx_here {c : Cl} {n : Int} (h : Day n) (k : op c n = 1) : stU c (n - 1) 1 = n :=
  stU_is ⟨by omega, h.2, k, by
    have := cnt_one c (n - 1)
    rw [show n - 1 + 1 = n by omega] at this
    omega⟩
def Mo (k n : Int) : Prop := 0 ≤ k ∧ D.yO k = D.yO n ∧ D.mO k = D.mO n
instance (k n : Int) : Decidable (Mo k n) := by unfold Mo; exact inferInstance
noncomputable def fk (c : Cl) (n : Int) : Int := if Mo (stU c (n - 1) 1) n then stU c (n - 1) 1 else stD c (n + 1) 1
theorem fk_1 {c : Cl} {n : Int} (h : Mo (stU c (n - 1) 1) n) : fk c n = stU c (n - 1) 1 := if_pos h
theorem fk_2 {c : Cl} {n : Int} (h : ¬ Mo (stU c (n - 1) 1) n) : fk c n = stD c (n + 1) 1 := if_neg h
noncomputable def fiV (c : Cl) (n : Int) : Int := if e1 c n ≠ 0 then 0 else toV (fk c n)
noncomputable def fiE (c : Cl) (n : Int) : Int := if e1 c n ≠ 0 then e1 c n else toE (fk c n)
theorem toV_pos {d : Int} (h : 0 ≤ d) : toV d = d ∧ toE d = 0 := ⟨if_neg (by omega), if_neg (by omega)⟩
theorem toE_ok {d : Int} (h : toE d = 0) : 0 ≤ d ∧ toV d = d := by
  unfold toE at h
  split at h
  · omega
  · exact ⟨by omega, if_neg ‹_›⟩
theorem sE_ok {c : Cl} {n m : Int} (h : sE c n m = 0) : chk c = 0 ∧ Day n ∧ (-500 ≤ m ∧ m ≤ 500) ∧ sV c n m = stp c n m ∧ Day (stp c n m) := by
  unfold sE at h
  split at h
  · exact absurd h ‹_›
  · rename_i q
    obtain ⟨a, b, d⟩ := sE0_ok (by omega : sE0 c n m = 0)
    obtain ⟨k, hd, hk⟩ := e1_ok a
    obtain ⟨u, v⟩ := toE_ok h
    refine ⟨hk, hd, ⟨b, d⟩, (if_neg q).trans v, ?_⟩
    rcases stp_cases (c := c) (m := m) hd with z | z
    · omega
    · exact z
theorem sE_of {c : Cl} {n m : Int} (h : chk c = 0) (hn : Day n) (hm : -500 ≤ m ∧ m ≤ 500) (hs : 0 ≤ stp c n m) : sE c n m = 0 ∧ sV c n m = stp c n m := by
  have e : sE0 c n m = 0 := by unfold sE0; rw [if_neg (by rw [e1_of h hn]; omega), if_neg (by omega)]
  have := toV_pos hs
  exact ⟨(if_neg (by omega)).trans this.2, (if_neg (by omega)).trans this.1⟩
theorem stp_is {c : Cl} {n m : Int} (hn : Day n) (h : 0 ≤ stp c n m) : (0 < m → Up c n m (stp c n m)) ∧ (m < 0 → Dn c n (-m) (stp c n m)) ∧ (m = 0 → stp c n m = n) := by
  refine ⟨fun q => ?_, fun q => ?_, fun q => by rw [q]; exact stp_0⟩
  · rw [stp_p q] at h ⊢
    exact stU_ok h
  · rw [stp_n q] at h ⊢
    rcases stD_cases c n (-m) with z | z
    · omega
    · exact z.2
theorem back {c : Cl} {n m : Int} (h : sE c n m = 0) :
    chk c = 0 ∧ Day n ∧ Day (sV c n m) ∧ (m = 0 → sV c n m = n) ∧ (m ≠ 0 → op c (sV c n m) = 1) ∧ (0 < m → coE c n (sV c n m) = 0 ∧ coV c n (sV c n m) = m) ∧ (op c n = 1 → sE c (sV c n m) (-m) = 0 ∧ sV c (sV c n m) (-m) = n) := by
  obtain ⟨h1, h2, h3, h4, h5⟩ := sE_ok h
  obtain ⟨u, d, z⟩ := stp_is h2 h5.1
  rw [h4]
  generalize stp c n m = k at *
  have hn := h2
  have hk := h5
  unfold Day at h2 h5
  refine ⟨h1, hn, hk, z, fun q => ?_, fun q => ?_, fun q => ?_⟩
  · rcases Int.lt_or_gt_of_ne q with q | q
    · exact (d q).2.2.1
    · exact (u q).2.2.1
  · obtain ⟨a, _, _, b⟩ := u q
    have e := coE_of h1 hn hk (by omega)
    exact ⟨e, (if_pos e).trans b⟩
  · by_cases m0 : m = 0
    · subst m0
      obtain rfl := z rfl
      have e0 : stp c k (-0) = k := stp_0
      have := sE_of (m := -0) h1 hn (by omega) (by rw [e0]; omega)
      rw [e0] at this
      exact this
    · by_cases mp : 0 < m
      · obtain ⟨a, _, b, e⟩ := u mp
        have f := cnt_first (c := c) (a := n - 1) (b := k - 1) (by omega)
        have g := cnt_last (c := c) (a := n) (b := k) a
        rw [show n - 1 + 1 = n by omega] at f
        have dn : Dn c k m n := ⟨by omega, a, q, by omega⟩
        have e0 : stp c k (-m) = n := by rw [stp_n (by omega), Int.neg_neg]; exact stD_is dn
        have := sE_of (m := -m) h1 hk (by omega) (by rw [e0]; omega)
        rw [e0] at this
        exact this
      · obtain ⟨a, b, e, f⟩ := d (by omega)
        have g := cnt_first (c := c) (a := k - 1) (b := n) (by omega)
        have i := cnt_last (c := c) (a := k - 1) (b := n) (by omega)
        rw [show k - 1 + 1 = k by omega] at g
        have up : Up c k (-m) n := ⟨b, by omega, q, by omega⟩
        have e0 : stp c k (-m) = n := by rw [stp_p (by omega)]; exact stU_is up
        have := sE_of (m := -m) h1 hk (by omega) (by rw [e0]; omega)
        rw [e0] at this
        exact this
theorem neE_ok {c : Cl} {n : Int} (h : neE c n = 0) : chk c = 0 ∧ Day n ∧ neV c n = stU c (n - 1) 1 ∧ Up c (n - 1) 1 (stU c (n - 1) 1) ∧ Day (stU c (n - 1) 1) := by
  unfold neE at h
  split at h
  · exact absurd h ‹_›
  · rename_i q
    obtain ⟨k, hd, hk⟩ := e1_ok (by omega : e1 c n = 0)
    obtain ⟨u, v⟩ := toE_ok h
    have up := stU_ok u
    exact ⟨hk, hd, (if_neg q).trans v, up, u, up.2.1⟩
theorem neE_of {c : Cl} {n : Int} (h : chk c = 0) (hn : Day n) (hs : 0 ≤ stU c (n - 1) 1) : neE c n = 0 ∧ neV c n = stU c (n - 1) 1 := by
  have e := e1_of h hn
  have := toV_pos hs
  exact ⟨(if_neg (by omega)).trans this.2, (if_neg (by omega)).trans this.1⟩
theorem isV_yes {c : Cl} {n : Int} (h : chk c = 0) (hn : Day n) : isV c n = decide (op c n = 1) := by
  unfold isV
  rw [decide_eq_decide]
  exact ⟨fun q => q.2, fun q => ⟨e1_of h hn, q⟩⟩
theorem next {c : Cl} {n : Int} (h : neE c n = 0) :
    chk c = 0 ∧ Day n ∧ Day (neV c n) ∧ n ≤ neV c n ∧ op c (neV c n) = 1 ∧ neE c (neV c n) = 0 ∧ neV c (neV c n) = neV c n ∧ (n < neV c n → coE c n (neV c n - 1) = 0 ∧ coV c n (neV c n - 1) = 0) ∧ ∀ l, n ≤ l → neE c l = 0 → neV c n ≤ neV c l := by
  obtain ⟨h1, h2, h3, h4, h5⟩ := neE_ok h
  rw [h3]
  generalize stU c (n - 1) 1 = k at *
  have hk := h5
  have hn := h2
  unfold Day at h2 h5
  obtain ⟨a1, a2, a3, a4⟩ := h4
  have nh := nx_here hk a3
  obtain ⟨b1, b2⟩ := neE_of h1 hk (by rw [nh]; omega)
  rw [nh] at b2
  have f := cnt_first (c := c) (a := n - 1) (b := k) a1
  rw [show n - 1 + 1 = n by omega] at f
  refine ⟨h1, hn, hk, by omega, a3, b1, b2, fun q => ?_, fun l hl hl2 => ?_⟩
  · have g := cnt_last (c := c) (a := n) (b := k) q
    have e := coE_of (c := c) (a := n) (b := k - 1) h1 hn ⟨by omega, by omega⟩ (by omega)
    have o := op_01 c n
    have bd := (cnt_bd c n (k - 1)).1
    exact ⟨e, (if_pos e).trans (by omega)⟩
  · obtain ⟨_, g2, g3, ⟨u1, u2, u3, u4⟩, _⟩ := neE_ok hl2
    rw [g3]
    generalize stU c (l - 1) 1 = y at *
    rcases Int.lt_or_le y k with z | z
    · have g := cnt_last (c := c) (a := n - 1) (b := k) a1
      have p := cnt_pos (c := c) (a := n - 1) (b := y) (by omega) u3
      have m := cnt_mono (c := c) (a := n - 1) (b := y) (d := k - 1) (by omega)
      omega
    · exact z
def less (c : Cl) (i : Nat) : Cl := ⟨c.we, c.hs.take i ++ c.hs.drop (i + 1)⟩
theorem parts_at {l : List Int} {i : Nat} (h : i < l.length) : l = l.take i ++ l.getD i default :: l.drop (i + 1) := by
  rw [getD_at h, ← List.drop_eq_getElem_cons h, List.take_append_drop]
theorem less_ok {c : Cl} {i : Nat} (h : Ok c) (hi : i < c.hs.length) : Ok (less c i) := by
  obtain ⟨h1, h2, h3, h4⟩ := h
  have sub : (less c i).hs.Sublist c.hs := by
    have e := parts_at hi
    unfold less
    dsimp only
    conv => rhs; rw [e]
    exact (List.Sublist.refl _).append (List.sublist_cons_self _ _)
  exact ⟨h1, Nat.le_trans sub.length_le h2, fun n hn => h3 n (sub.subset hn), h4.sublist sub⟩
end Ca
end Go.Proofs.YtpanlcnoopmchaaGreatDoor

namespace Go.Proofs.YtpanlcnoopmchaaGreatDoor.F
def fndV (id : Int) (l : List Fl) : Int := if checks l ≠ 0 then 0 else if idx id l 0 < 0 then 0 else idx id l 0
def fndE (id : Int) (l : List Fl) : Int := if checks l ≠ 0 then checks l else if idx id l 0 < 0 then 5 else 0
theorem fnd_1 {id : Int} {l : List Fl} (h : checks l ≠ 0) : fndV id l = 0 ∧ fndE id l = checks l := ⟨if_pos h, if_pos h⟩
theorem fnd_2 {id : Int} {l : List Fl} (h : checks l = 0) (k : idx id l 0 < 0) : fndV id l = 0 ∧ fndE id l = 5 := by
  unfold fndV fndE; rw [if_neg (by simpa using h), if_pos k, if_neg (by simpa using h), if_pos k]; exact ⟨rfl, rfl⟩
theorem fnd_3 {id : Int} {l : List Fl} (h : checks l = 0) (k : ¬ idx id l 0 < 0) : fndV id l = idx id l 0 ∧ fndE id l = 0 := by
  unfold fndV fndE; rw [if_neg (by simpa using h), if_neg k, if_neg (by simpa using h), if_neg k]; exact ⟨rfl, rfl⟩
end Go.Proofs.YtpanlcnoopmchaaGreatDoor.F

namespace Go.Proofs.YtpanlcnoopmchaaGreatDoor.F
theorem paid_ok {f : Fl} (h : less f 1 = 0) : Ok (addPd f (left f)) ∧ left (addPd f (left f)) = 0 ∧ 0 < left f := by
  obtain ⟨⟨a, b, ⟨⟨p1, p2⟩, ⟨p3, p4⟩, p5, p6⟩, d⟩, _, _, u⟩ := less_ok h
  unfold left at u ⊢
  refine ⟨⟨a, b, ⟨⟨p1, p2⟩, ⟨p3, p4⟩, ?_, ?_⟩, ?_⟩, ?_, ?_⟩ <;> (try simp only [addPd]) <;> omega
theorem deliver_ok {f : Fl} {u : Int} (h : less f u = 0) : Ok (addDe f u) ∧ left (addDe f u) = left f - u := by
  obtain ⟨⟨a, b, ⟨⟨p1, p2⟩, ⟨p3, p4⟩, p5, p6⟩, d⟩, _, _, u⟩ := less_ok h
  unfold left at u ⊢
  refine ⟨⟨a, b, ⟨⟨?_, ?_⟩, ⟨p3, p4⟩, p5, p6⟩, ?_⟩, ?_⟩ <;> (try simp only [addDe]) <;> omega
theorem buy_ok {f : Fl} {u : Int} (h : less f u = 0) : Ok (addBo f u) ∧ left (addBo f u) = left f - u := by
  obtain ⟨⟨a, b, ⟨⟨p1, p2⟩, ⟨p3, p4⟩, p5, p6⟩, d⟩, _, _, u⟩ := less_ok h
  unfold left at u ⊢
  refine ⟨⟨a, b, ⟨⟨p1, p2⟩, ⟨?_, ?_⟩, p5, p6⟩, ?_⟩, ?_⟩ <;> (try simp only [addBo]) <;> omega
theorem parts {f : Fl} {a b : Int} (h : less f a = 0) (hb : 1 ≤ b) (hb2 : b ≤ 1073741824) :
    (less (addDe f a) b = 0 ∧ less f (a + b) = 0 ∧ less (addBo f b) a = 0 ∧ less f b = 0) ∨ (less (addDe f a) b ≠ 0 ∧ less f (a + b) ≠ 0) := by
  obtain ⟨hok, a1, a2, a3⟩ := less_ok h
  obtain ⟨k1, k2⟩ := deliver_ok h
  have hbd := ok_bounds hok
  by_cases c : b ≤ left f - a
  · left
    have e4 : less f b = 0 := less_5 (chk_of hok) (by omega) (by omega) (by omega)
    obtain ⟨m1, m2⟩ := buy_ok e4
    refine ⟨less_5 (chk_of k1) (by omega) (by omega) (by omega), less_5 (chk_of hok) (by omega) (by omega) (by omega), less_5 (chk_of m1) (by omega) (by omega) (by omega), e4⟩
  · right
    refine ⟨fun q => ?_, fun q => ?_⟩
    · obtain ⟨_, _, _, q4⟩ := less_ok q; omega
    · obtain ⟨_, _, _, q4⟩ := less_ok q; omega
end Go.Proofs.YtpanlcnoopmchaaGreatDoor.F

namespace Go.Proofs.YtpanlcnoopmchaaGreatDoor
namespace Ca
theorem stp_up {c : Cl} {a m : Int} (ha : Day a) (hm : 0 ≤ m) (h : 0 ≤ stp c a m) : a ≤ stp c a m ∧ Day (stp c a m) ∧ cnt c a (stp c a m) = m := by
  obtain ⟨u, _, z⟩ := stp_is ha h
  by_cases m0 : m = 0
  · subst m0
    rw [stp_0]; exact ⟨Int.le_refl _, ha, cnt_none (Int.le_refl _)⟩
  · obtain ⟨h1, h2, h3, h4⟩ := u (by omega)
    exact ⟨by omega, ⟨h, h2⟩, h4⟩
end Ca
namespace Ag
open Ca (Day stp)
def Wi (t : Tm) : Prop := (0 ≤ t.ex ∧ t.ex ≤ 100) ∧ (0 ≤ t.bu ∧ t.bu ≤ 100) ∧ (0 ≤ t.de ∧ t.de ≤ 100) ∧ (0 ≤ t.ra ∧ t.ra ≤ 1000000)
instance (t : Tm) : Decidable (Wi t) := by unfold Wi; exact inferInstance
def tchk (t : Tm) : Int := if Wi t then 0 else 3
theorem tchk_ok {t : Tm} (h : tchk t = 0) : Wi t := by
  unfold tchk at h
  split at h
  · assumption
  · omega
def ck (c : Cl) (t : Tm) : Int := if Ca.chk c ≠ 0 then Ca.chk c else tchk t
theorem ck_ok {c : Cl} {t : Tm} (h : ck c t = 0) : Ca.chk c = 0 ∧ Wi t := by
  unfold ck at h
  split at h
  · exact absurd h ‹_›
  · exact ⟨by omega, tchk_ok h⟩
theorem ck_1 {c : Cl} {t : Tm} (h : ¬ Ca.chk c = 0) : ck c t = Ca.chk c := if_pos h
theorem ck_2 {c : Cl} {t : Tm} (h : Ca.chk c = 0) : ck c t = tchk t := if_neg (by omega)
noncomputable def d1 (c : Cl) (t : Tm) (day : Int) : Int := stp c day t.ex
noncomputable def d2 (c : Cl) (t : Tm) (day : Int) : Int := stp c (d1 c t day) t.bu
noncomputable def d3 (c : Cl) (t : Tm) (day : Int) : Int := stp c (d2 c t day) t.de
def There (c : Cl) (t : Tm) (day : Int) : Prop := 0 ≤ d1 c t day ∧ 0 ≤ d2 c t day ∧ 0 ≤ d3 c t day
noncomputable instance (c : Cl) (t : Tm) (day : Int) : Decidable (There c t day) := by unfold There; exact inferInstance
theorem days {c : Cl} {t : Tm} {day : Int} (ht : Wi t) (hd : Day day) (h : There c t day) : (day ≤ d1 c t day ∧ Day (d1 c t day) ∧ Ca.cnt c day (d1 c t day) = t.ex) ∧ (d1 c t day ≤ d2 c t day ∧ Day (d2 c t day) ∧ Ca.cnt c (d1 c t day) (d2 c t day) = t.bu) ∧ (d2 c t day ≤ d3 c t day ∧ Day (d3 c t day) ∧ Ca.cnt c (d2 c t day) (d3 c t day) = t.de) := by
  obtain ⟨h1, h2, h3⟩ := h
  have a := Ca.stp_up hd ht.1.1 h1
  have b := Ca.stp_up a.2.1 ht.2.1.1 h2
  have d := Ca.stp_up b.2.1 ht.2.2.1.1 h3
  exact ⟨a, b, d⟩
noncomputable def sq (c : Cl) (d : Int) : List Int → List Int
  | [] => []
  | n :: r => stp c d n :: sq c (stp c d n) r
theorem sq_len (c : Cl) : ∀ (l : List Int) (d : Int), (sq c d l).length = l.length
  | [], _ => rfl
  | n :: r, d => by simp [sq, sq_len c r]
theorem sq_at (c : Cl) : ∀ (l : List Int) (d : Int) (k : Nat), k < l.length → (sq c d l).getD k default = stp c ((d :: sq c d l).getD k default) (l.getD k default)
  | [], _, _, h => by simp at h
  | n :: r, d, 0, _ => by simp [sq]
  | n :: r, d, k + 1, h => by
    have := sq_at c r (stp c d n) k (by simpa using h)
    simp only [sq, List.getD_cons_succ]
    exact this
def okS (c : Cl) (d : Int) (l : List Int) : Prop := ∀ x ∈ sq c d l, 0 ≤ x
noncomputable instance (c : Cl) (d : Int) (l : List Int) : Decidable (okS c d l) := by unfold okS; exact inferInstance
theorem sq_day {c : Cl} {l : List Int} {d : Int} (hd : Day d) : ∀ k, k ≤ l.length → (∀ j, j < k → 0 ≤ (sq c d l).getD j default) → Day ((d :: sq c d l).getD k default)
  | 0, _, _ => by simpa using hd
  | k + 1, hk, h => by
    have ih := sq_day hd k (by omega) (fun j hj => h j (by omega))
    have e := sq_at c l d k (by omega)
    have p := h k (by omega)
    rw [List.getD_cons_succ]
    rw [e] at p ⊢
    rcases Ca.stp_cases (c := c) (m := l.getD k default) ih with q | q
    · omega
    · exact q
theorem sq3 (c : Cl) (t : Tm) (day : Int) : sq c day [t.ex, t.bu, t.de] = [d1 c t day, d2 c t day, d3 c t day] := rfl
theorem sq4 (c : Cl) (t : Tm) (day : Int) : sq c day [0, t.ex, t.bu, t.de] = [day, d1 c t day, d2 c t day, d3 c t day] := by
  show stp c day 0 :: sq c (stp c day 0) [t.ex, t.bu, t.de] = _
  rw [Ca.stp_0, sq3]
theorem ok4 {c : Cl} {t : Tm} {day : Int} (hd : Day day) : okS c day [0, t.ex, t.bu, t.de] ↔ There c t day := by
  unfold okS There; rw [sq4]; simp; intro _ _ _; exact hd.1
noncomputable def dE (c : Cl) (t : Tm) (day : Int) : Int := if ck c t ≠ 0 then ck c t else if D.chk day ≠ 0 then D.chk day else if There c t day then 0 else 8
def s0 (c : Cl) (t : Tm) (f : Fl) (n : Int) : Int := if ck c t ≠ 0 then ck c t else if F.chk f ≠ 0 then F.chk f else D.chk n
theorem s0_1 {c : Cl} {t : Tm} {f : Fl} {n : Int} (h : ¬ ck c t = 0) : s0 c t f n = ck c t := if_pos h
theorem s0_2 {c : Cl} {t : Tm} {f : Fl} {n : Int} (h : ck c t = 0) (k : ¬ F.chk f = 0) : s0 c t f n = F.chk f := (if_neg (by omega)).trans (if_pos k)
theorem s0_3 {c : Cl} {t : Tm} {f : Fl} {n : Int} (h : ck c t = 0) (k : F.chk f = 0) : s0 c t f n = D.chk n := (if_neg (by omega)).trans (if_neg (by omega))
theorem f_day {f : Fl} (h : F.chk f = 0) : Day f.day := (F.chk_ok h).1.2.2.2.2.2.1
theorem s0_ok {c : Cl} {t : Tm} {f : Fl} {n : Int} (h : s0 c t f n = 0) : ck c t = 0 ∧ F.chk f = 0 ∧ Day n := by
  unfold s0 at h
  split at h
  · exact absurd h ‹_›
  · split at h
    · exact absurd h ‹_›
    · rcases Ca.dchk n with q | q
      · exact ⟨by omega, by omega, q.2⟩
      · omega
noncomputable def sE (c : Cl) (t : Tm) (f : Fl) (n : Int) : Int := if s0 c t f n ≠ 0 then s0 c t f n else if There c t f.day then 0 else 8
theorem sE_1 {c : Cl} {t : Tm} {f : Fl} {n : Int} (h : ¬ s0 c t f n = 0) : sE c t f n = s0 c t f n := if_pos h
theorem sE_2 {c : Cl} {t : Tm} {f : Fl} {n : Int} (h : s0 c t f n = 0) (k : ¬ There c t f.day) : sE c t f n = 8 := (if_neg (by omega)).trans (if_neg k)
theorem sE_3 {c : Cl} {t : Tm} {f : Fl} {n : Int} (h : s0 c t f n = 0) (k : There c t f.day) : sE c t f n = 0 := (if_neg (by omega)).trans (if_pos k)
theorem sE_ok {c : Cl} {t : Tm} {f : Fl} {n : Int} (h : sE c t f n = 0) : Ca.chk c = 0 ∧ Wi t ∧ F.chk f = 0 ∧ Day n ∧ There c t f.day := by
  unfold sE at h
  split at h
  · exact absurd h ‹_›
  · split at h
    · obtain ⟨a, b, d⟩ := s0_ok (by omega : s0 c t f n = 0)
      obtain ⟨x, y⟩ := ck_ok a
      exact ⟨x, y, b, d, ‹_›⟩
    · omega
theorem sE_of {c : Cl} {t : Tm} {f : Fl} {n : Int} (h1 : Ca.chk c = 0) (h2 : Wi t) (h3 : F.chk f = 0) (h4 : Day n) (h5 : There c t f.day) : sE c t f n = 0 := by
  have a : ck c t = 0 := (ck_2 h1).trans (if_pos h2)
  exact sE_3 ((s0_3 a h3).trans (D.chk_yes h4.1 h4.2)) h5
def one (p : Prop) [Decidable p] : Int := if p then 1 else 0
noncomputable def stg (c : Cl) (t : Tm) (f : Fl) (n : Int) : Int := if F.left f = 0 then 5 else one (f.day < n) + one (d1 c t f.day < n) + one (d2 c t f.day < n) + one (d3 c t f.day < n)
def cn (n : Int) : List Int → Int
  | [] => 0
  | x :: r => one (x < n) + cn n r
theorem cn_snoc (n x : Int) : ∀ l : List Int, cn n (l ++ [x]) = cn n l + one (x < n)
  | [] => by simp [cn]
  | y :: r => by rw [List.cons_append]; simp only [cn]; rw [cn_snoc n x r]; omega
theorem cn_bd (n : Int) : ∀ l : List Int, 0 ≤ cn n l ∧ cn n l ≤ l.length
  | [] => by simp [cn]
  | y :: r => by have := cn_bd n r; simp only [cn, List.length_cons]; unfold one; split <;> omega
theorem stg_cn {c : Cl} {t : Tm} {f : Fl} {n : Int} (h : ¬ F.left f = 0) : stg c t f n = cn n [f.day, d1 c t f.day, d2 c t f.day, d3 c t f.day] := by
  unfold stg
  rw [if_neg h]
  simp only [cn]; omega
noncomputable def sV (c : Cl) (t : Tm) (f : Fl) (n : Int) : Int := if sE c t f n = 0 then stg c t f n else 0
noncomputable def lV (c : Cl) (t : Tm) (f : Fl) (n : Int) : Int := if sE c t f n = 0 ∧ n < d3 c t f.day then Ca.cnt c n (d3 c t f.day) else 0
theorem sV_no {c : Cl} {t : Tm} {f : Fl} {n : Int} (h : ¬ sE c t f n = 0) : sV c t f n = 0 ∧ lV c t f n = 0 := ⟨if_neg h, if_neg (fun q => h q.1)⟩
theorem sV_yes {c : Cl} {t : Tm} {f : Fl} {n : Int} (h : sE c t f n = 0) : sV c t f n = stg c t f n := if_pos h
theorem stg_is {c : Cl} {t : Tm} {f : Fl} {n : Int} (h : sE c t f n = 0) : (F.left f = 0 → stg c t f n = 5) ∧ (¬ F.left f = 0 →
    (n ≤ f.day → stg c t f n = 0) ∧ (f.day < n → n ≤ d1 c t f.day → stg c t f n = 1) ∧ (d1 c t f.day < n → n ≤ d2 c t f.day → stg c t f n = 2) ∧ (d2 c t f.day < n → n ≤ d3 c t f.day → stg c t f n = 3) ∧ (d3 c t f.day < n → stg c t f n = 4)) := by
  obtain ⟨_, hw, hf, _, hth⟩ := sE_ok h
  obtain ⟨a, b, d⟩ := days hw (f_day hf) hth
  refine ⟨fun q => if_pos q, fun q => ?_⟩
  have e : stg c t f n = one (f.day < n) + one (d1 c t f.day < n) + one (d2 c t f.day < n) + one (d3 c t f.day < n) := if_neg q
  rw [e]
  unfold one
  refine ⟨fun q => ?_, fun q r => ?_, fun q r => ?_, fun q r => ?_, fun q => ?_⟩ <;> (repeat' split) <;> omega
end Ag
end Go.Proofs.YtpanlcnoopmchaaGreatDoor

namespace Go.Proofs.YtpanlcnoopmchaaGreatDoor
namespace Ca
def W : Cl := ⟨96, [739936]⟩
theorem w0 : chk W = 0 := by decide
theorem w1 : isV W 739936 = false ∧ e1 W 739936 = 0 := by decide
theorem w2 : neV W 739936 = 739937 ∧ neE W 739936 = 0 := by
  have s : stU W (739936 - 1) 1 = 739937 := stU_is (by unfold Up; decide)
  obtain ⟨a, b⟩ := neE_of (c := W) (n := 739936) w0 (by decide) (by rw [s]; decide)
  exact ⟨b.trans s, a⟩
theorem w3 : sV W 739935 4 = 739942 ∧ sE W 739935 4 = 0 := by
  have s : stp W 739935 4 = 739942 := (stp_p (by decide)).trans (stU_is (by unfold Up; decide))
  obtain ⟨a, b⟩ := sE_of (c := W) (n := 739935) (m := 4) w0 (by decide) (by decide) (by rw [s]; decide)
  exact ⟨b.trans s, a⟩
theorem w4 : sV W 739937 (-2) = 739932 ∧ sE W 739937 (-2) = 0 := by
  have s : stp W 739937 (-2) = 739932 := (stp_n (by decide)).trans (stD_is (by unfold Dn; decide))
  obtain ⟨a, b⟩ := sE_of (c := W) (n := 739937) (m := -2) w0 (by decide) (by decide) (by rw [s]; decide)
  exact ⟨b.trans s, a⟩
theorem w5 : coV W 739935 739942 = 4 ∧ coE W 739935 739942 = 0 := by decide
theorem w6 : fiV W 739949 = 739949 ∧ fiE W 739949 = 0 := by
  have s : stU W (739949 - 1) 1 = 739949 := nx_here (by decide) (by decide)
  have f : fk W 739949 = 739949 := (fk_1 (by rw [s]; exact ⟨by decide, rfl, rfl⟩)).trans s
  have e : e1 W 739949 = 0 := by decide
  have t := toV_pos (d := fk W 739949) (by rw [f]; decide)
  exact ⟨((if_neg (by omega)).trans t.1).trans f, (if_neg (by omega)).trans t.2⟩
theorem w8 : chk ⟨0, [2, 1]⟩ = 4 := by decide
end Ca
end Go.Proofs.YtpanlcnoopmchaaGreatDoor

namespace Go.Proofs.YtpanlcnoopmchaaGreatDoor
open Go Go.RowKit V
theorem v_fwithin (n a b : Int) : V.Fn Tryz.prog 83 [] [.one (.val (.int .i64 n)), .one (.val (.int .i64 a)), .one (.val (.int .i64 b))] (.bool (decide (a ≤ n ∧ n ≤ b))) := by
  refine V.Fn.mk_ V.Tok V.mixed Tryz.func83 rfl Tryz.ntmps83 (by kernel_rfl) rfl rfl ?_
  repeat' ((conv => whnf); first | refine V.NCond.mk ?_ | refine V.NPick.l ?_ | refine V.NIf.not_ ?_ | refine V.NIf.dec_ ?_ | refine V.a4 ?_ | refine V.a5 ?_ | refine V.NIf.mk (fun _ => ?_) (fun _ => ?_) | refine V.a7 ?_ | refine V.a8 ?_ | refine V.a9 ?_ | refine V.NBoth.mk ?_ ?_ | refine V.b1 ?_ | refine V.b2 ?_ | refine V.NTF.dec ?_ | refine V.b3 ?_ | refine V.b4 ?_ | (refine V.NDraw.any (by kernel_rfl) ?_) | fail)
  · exact ⟨_, rfl, by simp_all⟩
  · exact congrArg Value.bool (by simp_all; omega)
theorem v_dcheck (n : Int) : V.Fn Tryz.prog 43 [] [.one (.val (.int .i64 n))] (.int .i64 (D.chk n)) := by
  refine V.Fn.mk_ V.Tok V.mixed Tryz.func43 rfl Tryz.ntmps43 (by kernel_rfl) rfl rfl ?_
  repeat' ((conv => whnf); first | refine V.NCond.mk ?_ | refine V.NPick.l ?_ | refine V.NIf.not_ ?_ | refine V.NIf.dec_ ?_ | refine V.a4 ?_ | refine V.a5 ?_ | refine V.NIf.mk (fun _ => ?_) (fun _ => ?_) | refine V.a7 ?_ | refine V.a8 ?_ | refine V.a9 ?_ | refine V.NBoth.mk ?_ ?_ | refine V.b1 ?_ | refine V.b2 ?_ | refine V.NTF.dec ?_ | refine V.b3 ?_ | refine V.b4 ?_ | (refine V.NDraw.any (by kernel_rfl) ?_) | fail)
  all_goals ((conv => whnf); refine congrArg _ ?_; unfold D.chk; (repeat' split) <;> first | rfl | omega | (exfalso; omega) | (simp_all; done) | (simp_all; omega))
theorem v_known (f : Fl) : V.Fn Tryz.prog 82 [] [.agg [.val (.int .i64 f.id), .val (.int .i64 f.fr), .val (.int .i64 f.to), .val (.int .i64 f.cl), .val (.int .i64 f.pa), .val (.int .i64 f.day), .val (.int .i64 f.un), .val (.int .i64 f.de), .val (.int .i64 f.bo), .val (.int .i64 f.pd)]] (.bool (decide (F.Kn f))) := by
  have k : D.chk f.day = 0 ↔ (0 ≤ f.day ∧ f.day ≤ 3652058) := by unfold D.chk; split <;> omega
  refine V.Fn.mk_ V.Tok V.mixed Tryz.func82 rfl Tryz.ntmps82 (by kernel_rfl) rfl rfl ?_
  repeat' ((conv => whnf); first | refine V.NCond.mk ?_ | refine V.NPick.l ?_ | refine V.NIf.not_ ?_ | refine V.NIf.dec_ ?_ | refine V.a4 ?_ | refine V.a5 ?_ | refine V.NIf.mk (fun _ => ?_) (fun _ => ?_) | refine V.a7 ?_ | refine V.a8 ?_ | refine V.a9 ?_ | refine V.NBoth.mk ?_ ?_ | refine V.b1 ?_ | refine V.b2 ?_ | refine V.NTF.dec ?_ | refine V.b3 ?_ | refine V.b4 ?_ | (first | refine V.Fn.k0 (v_fwithin _ _ _) rfl ?_ | refine V.Fn.q0 (v_fwithin _ _ _) rfl ?_ | refine V.Fn.a0 (v_fwithin _ _ _) rfl ?_) | (first | refine V.Fn.k0 (v_dcheck _) rfl ?_ | refine V.Fn.q0 (v_dcheck _) rfl ?_ | refine V.Fn.a0 (v_dcheck _) rfl ?_) | (refine V.NDraw.any (by kernel_rfl) ?_) | fail)
  · exact congrArg Value.bool (decide_eq_decide.2 (by unfold F.Kn; omega))
  all_goals exact congrArg Value.bool (decide_eq_false (by unfold F.Kn; omega)).symm
theorem v_fcheck (f : Fl) : V.Fn Tryz.prog 56 [] [.agg [.val (.int .i64 f.id), .val (.int .i64 f.fr), .val (.int .i64 f.to), .val (.int .i64 f.cl), .val (.int .i64 f.pa), .val (.int .i64 f.day), .val (.int .i64 f.un), .val (.int .i64 f.de), .val (.int .i64 f.bo), .val (.int .i64 f.pd)]] (.int .i64 (F.chk f)) := by
  have kun : F.Kn f → f.un ≤ 1073741824 := fun h => h.2.2.2.2.2.2.2
  refine V.Fn.mk_ V.Tok V.mixed Tryz.func56 rfl Tryz.ntmps56 (by kernel_rfl) rfl rfl ?_
  repeat' ((conv => whnf); first | refine V.NCond.mk ?_ | refine V.NPick.l ?_ | refine V.NIf.not_ ?_ | refine V.NIf.dec_ ?_ | refine V.a4 ?_ | refine V.a5 ?_ | refine V.NIf.mk (fun _ => ?_) (fun _ => ?_) | refine V.a7 ?_ | refine V.a8 ?_ | refine V.a9 ?_ | refine V.NBoth.mk ?_ ?_ | refine V.b1 ?_ | refine V.b2 ?_ | refine V.NTF.dec ?_ | refine V.b3 ?_ | refine V.b4 ?_ | (first | refine V.Fn.k0 (v_fwithin _ _ _) rfl ?_ | refine V.Fn.q0 (v_fwithin _ _ _) rfl ?_ | refine V.Fn.a0 (v_fwithin _ _ _) rfl ?_) | (first | refine V.Fn.k0 (v_known _) rfl ?_ | refine V.Fn.q0 (v_known _) rfl ?_ | refine V.Fn.a0 (v_known _) rfl ?_) | (refine V.NWrap.ok (by have := kun (by assumption); omega) (by have := kun (by assumption); omega) ?_) | (refine V.NDraw.any (by kernel_rfl) ?_) | fail)
  all_goals ((conv => whnf); refine congrArg _ ?_; unfold F.chk F.Pt; (repeat' split) <;> first | rfl | omega | (exfalso; omega) | (simp_all; done) | (simp_all; omega))
theorem v_fleft (f : Fl) (h : F.Ok f) : V.Fn Tryz.prog 42 [] [.agg [.val (.int .i64 f.id), .val (.int .i64 f.fr), .val (.int .i64 f.to), .val (.int .i64 f.cl), .val (.int .i64 f.pa), .val (.int .i64 f.day), .val (.int .i64 f.un), .val (.int .i64 f.de), .val (.int .i64 f.bo), .val (.int .i64 f.pd)]] (.int .i64 (F.left f)) := by
  have hb := F.ok_bounds h
  refine V.Fn.mk_ V.Tok V.mixed Tryz.func42 rfl Tryz.ntmps42 (by kernel_rfl) rfl rfl ?_
  repeat' ((conv => whnf); first | refine V.NCond.mk ?_ | refine V.NPick.l ?_ | refine V.NIf.not_ ?_ | refine V.NIf.dec_ ?_ | refine V.a4 ?_ | refine V.a5 ?_ | refine V.NIf.mk (fun _ => ?_) (fun _ => ?_) | refine V.a7 ?_ | refine V.a8 ?_ | refine V.a9 ?_ | refine V.NBoth.mk ?_ ?_ | refine V.b1 ?_ | refine V.b2 ?_ | refine V.NTF.dec ?_ | refine V.b3 ?_ | refine V.b4 ?_ | (refine V.NDraw.any (by kernel_rfl) ?_) | fail)
  exact rfl
theorem v_less (f : Fl) (u : Int) : V.Fn Tryz.prog 59 [] [.agg [.val (.int .i64 f.id), .val (.int .i64 f.fr), .val (.int .i64 f.to), .val (.int .i64 f.cl), .val (.int .i64 f.pa), .val (.int .i64 f.day), .val (.int .i64 f.un), .val (.int .i64 f.de), .val (.int .i64 f.bo), .val (.int .i64 f.pd)], .one (.val (.int .i64 u))] (.int .i64 (F.less f u)) := by
  refine V.Fn.mk_ V.Tok V.mixed Tryz.func59 rfl Tryz.ntmps59 (by kernel_rfl) rfl rfl ?_
  repeat' ((conv => whnf); first | refine V.NCond.mk ?_ | refine V.NPick.l ?_ | refine V.NIf.not_ ?_ | refine V.NIf.dec_ ?_ | refine V.a4 ?_ | refine V.a5 ?_ | refine V.NIf.mk (fun _ => ?_) (fun _ => ?_) | refine V.a7 ?_ | refine V.a8 ?_ | refine V.a9 ?_ | refine V.NBoth.mk ?_ ?_ | refine V.b1 ?_ | refine V.b2 ?_ | refine V.NTF.dec ?_ | refine V.b3 ?_ | refine V.b4 ?_ | (first | refine V.Fn.k0 (v_fwithin _ _ _) rfl ?_ | refine V.Fn.q0 (v_fwithin _ _ _) rfl ?_ | refine V.Fn.a0 (v_fwithin _ _ _) rfl ?_) | (first | refine V.Fn.k0 (v_fcheck _) rfl ?_ | refine V.Fn.q0 (v_fcheck _) rfl ?_ | refine V.Fn.a0 (v_fcheck _) rfl ?_) | (first | refine V.Fn.k0 (v_fleft f (F.chk_ok (by omega))) rfl ?_ | refine V.Fn.q0 (v_fleft f (F.chk_ok (by omega))) rfl ?_ | refine V.Fn.a0 (v_fleft f (F.chk_ok (by omega))) rfl ?_) | (refine V.NDraw.any (by kernel_rfl) ?_) | fail)
  all_goals ((conv => whnf); refine congrArg _ ?_; unfold F.less; (repeat' split) <;> first | rfl | omega | (exfalso; omega) | (simp_all; done) | (simp_all; omega))
theorem v_deliver (f : Fl) (u : Int) : V.Fn Tryz.prog 36 [] [.agg [.val (.int .i64 f.id), .val (.int .i64 f.fr), .val (.int .i64 f.to), .val (.int .i64 f.cl), .val (.int .i64 f.pa), .val (.int .i64 f.day), .val (.int .i64 f.un), .val (.int .i64 f.de), .val (.int .i64 f.bo), .val (.int .i64 f.pd)], .one (.val (.int .i64 u))] (.tuple #[.agg #[.int .i64 (F.deliver f u).id, .int .i64 (F.deliver f u).fr, .int .i64 (F.deliver f u).to, .int .i64 (F.deliver f u).cl, .int .i64 (F.deliver f u).pa, .int .i64 (F.deliver f u).day, .int .i64 (F.deliver f u).un, .int .i64 (F.deliver f u).de, .int .i64 (F.deliver f u).bo, .int .i64 (F.deliver f u).pd], .int .i64 (F.less f u)]) := by
  have key : F.less f u = 0 → f.de + u ≤ 1073741824 * 2 ∧ 0 ≤ f.de + u := fun h => by have h1 := F.less_ok h; have := F.ok_bounds h1.1; omega
  refine V.Fn.mk_ V.Tok V.mixed Tryz.func36 rfl Tryz.ntmps36 (by kernel_rfl) rfl rfl ?_
  repeat' ((conv => whnf); first | refine V.NCond.mk ?_ | refine V.NPick.l ?_ | refine V.NIf.not_ ?_ | refine V.NIf.dec_ ?_ | refine V.a4 ?_ | refine V.a5 ?_ | refine V.NIf.mk (fun _ => ?_) (fun _ => ?_) | refine V.a7 ?_ | refine V.a8 ?_ | refine V.a9 ?_ | refine V.NBoth.mk ?_ ?_ | refine V.b1 ?_ | refine V.b2 ?_ | refine V.NTF.dec ?_ | refine V.b3 ?_ | refine V.b4 ?_ | (first | refine V.Fn.k0 (v_less _ _) rfl ?_ | refine V.Fn.q0 (v_less _ _) rfl ?_ | refine V.Fn.a0 (v_less _ _) rfl ?_) | (refine V.NDraw.any (by kernel_rfl) ?_) | fail)
  all_goals rename_i h
  · rw [F.deliver_yes h, h]; exact V.S_
  · rw [F.deliver_no h]; exact V.S_
theorem v_pay (f : Fl) : V.Fn Tryz.prog 80 [] [.agg [.val (.int .i64 f.id), .val (.int .i64 f.fr), .val (.int .i64 f.to), .val (.int .i64 f.cl), .val (.int .i64 f.pa), .val (.int .i64 f.day), .val (.int .i64 f.un), .val (.int .i64 f.de), .val (.int .i64 f.bo), .val (.int .i64 f.pd)]] (.tuple #[.agg #[.int .i64 (F.pay f).id, .int .i64 (F.pay f).fr, .int .i64 (F.pay f).to, .int .i64 (F.pay f).cl, .int .i64 (F.pay f).pa, .int .i64 (F.pay f).day, .int .i64 (F.pay f).un, .int .i64 (F.pay f).de, .int .i64 (F.pay f).bo, .int .i64 (F.pay f).pd], .int .i64 (F.paid f), .int .i64 (F.less f 1)]) := by
  have key : F.less f 1 = 0 → f.pd + F.left f ≤ 1073741824 * 2 ∧ 0 ≤ f.pd + F.left f := fun h => by have h1 := F.less_ok h; have := F.ok_bounds h1.1; omega
  refine V.Fn.mk_ V.Tok V.mixed Tryz.func80 rfl Tryz.ntmps80 (by kernel_rfl) rfl rfl ?_
  repeat' ((conv => whnf); first | refine V.NCond.mk ?_ | refine V.NPick.l ?_ | refine V.NIf.not_ ?_ | refine V.NIf.dec_ ?_ | refine V.a4 ?_ | refine V.a5 ?_ | refine V.NIf.mk (fun _ => ?_) (fun _ => ?_) | refine V.a7 ?_ | refine V.a8 ?_ | refine V.a9 ?_ | refine V.NBoth.mk ?_ ?_ | refine V.b1 ?_ | refine V.b2 ?_ | refine V.NTF.dec ?_ | refine V.b3 ?_ | refine V.b4 ?_ | (first | refine V.Fn.k0 (v_less _ _) rfl ?_ | refine V.Fn.q0 (v_less _ _) rfl ?_ | refine V.Fn.a0 (v_less _ _) rfl ?_) | (first | refine V.Fn.k0 (v_fleft f (F.less_ok (by assumption)).1) rfl ?_ | refine V.Fn.q0 (v_fleft f (F.less_ok (by assumption)).1) rfl ?_ | refine V.Fn.a0 (v_fleft f (F.less_ok (by assumption)).1) rfl ?_) | (refine V.NDraw.any (by kernel_rfl) ?_) | fail)
  all_goals rename_i h
  · rw [(F.pay_yes h).1, (F.pay_yes h).2, h]; exact V.S_
  · rw [(F.pay_no h).1, (F.pay_no h).2]; exact V.S_
end Go.Proofs.YtpanlcnoopmchaaGreatDoor

namespace Go.Proofs.YtpanlcnoopmchaaGreatDoor
open Go.RowKit Go.Maps
theorem fcheck_c (f : Fl) (w : World) : Calls Tryz.prog 56 #[.agg #[.int .i64 f.id, .int .i64 f.fr, .int .i64 f.to, .int .i64 f.cl, .int .i64 f.pa, .int .i64 f.day, .int .i64 f.un, .int .i64 f.de, .int .i64 f.bo, .int .i64 f.pd]] w fun e w' => e = .returned (.int .i64 (F.chk f)) ∧ Below w.heap.size w w' :=
  (v_fcheck f).calls (xs := [.agg #[.int .i64 f.id, .int .i64 f.fr, .int .i64 f.to, .int .i64 f.cl, .int .i64 f.pa, .int .i64 f.day, .int .i64 f.un, .int .i64 f.de, .int .i64 f.bo, .int .i64 f.pd]]) w
def FailsAt (w : World) (B : Nat) (A : Option Addr) (l : List Fl) : Prop := ∀ k (hk : k < l.length), ∃ b off, A = some ⟨b, off, none⟩ ∧ b < B ∧
  w.cell? ⟨b, off + k * 10, none⟩ = some (.int .i64 l[k].id) ∧ w.cell? ⟨b, off + k * 10 + 1, none⟩ = some (.int .i64 l[k].fr) ∧ w.cell? ⟨b, off + k * 10 + 2, none⟩ = some (.int .i64 l[k].to) ∧
  w.cell? ⟨b, off + k * 10 + 3, none⟩ = some (.int .i64 l[k].cl) ∧ w.cell? ⟨b, off + k * 10 + 4, none⟩ = some (.int .i64 l[k].pa) ∧ w.cell? ⟨b, off + k * 10 + 5, none⟩ = some (.int .i64 l[k].day) ∧
  w.cell? ⟨b, off + k * 10 + 6, none⟩ = some (.int .i64 l[k].un) ∧ w.cell? ⟨b, off + k * 10 + 7, none⟩ = some (.int .i64 l[k].de) ∧ w.cell? ⟨b, off + k * 10 + 8, none⟩ = some (.int .i64 l[k].bo) ∧
  w.cell? ⟨b, off + k * 10 + 9, none⟩ = some (.int .i64 l[k].pd)
theorem FailsAt.keep {w w' : World} {B : Nat} {A : Option Addr} {l : List Fl} (h : FailsAt w B A l) (hb : Below B w w') : FailsAt w' B A l := by
  intro k hk
  obtain ⟨b, off, e, hB, c0, c1, c2, c3, c4, c5, c6, c7, c8, c9⟩ := h k hk
  have q : ∀ o, w'.cell? ⟨b, o, none⟩ = w.cell? ⟨b, o, none⟩ := fun o => hb.cell (p := ⟨b, o, none⟩) hB
  exact ⟨b, off, e, hB, (q _).trans c0, (q _).trans c1, (q _).trans c2, (q _).trans c3, (q _).trans c4, (q _).trans c5, (q _).trans c6, (q _).trans c7, (q _).trans c8, (q _).trans c9⟩
theorem FailsAt.to {w w' : World} {A : Option Addr} {l : List Fl} (h : FailsAt w w.heap.size A l) (hb : Below w.heap.size w w') : FailsAt w' w'.heap.size A l := by
  intro k hk
  obtain ⟨b, off, e, hB, r⟩ := h.keep hb k hk
  exact ⟨b, off, e, Nat.lt_of_lt_of_le hB hb.size, r⟩
def idSet (ids : List Int) : DataW Unit := setOf (.agg []) (ids.map (Lit.int .i64))
theorem idSet_zero : idSet [] = .map [] := by simp [idSet, setOf]
theorem idSet_snoc (ids : List Int) (x : Int) : idSet (ids ++ [x]) = (idSet ids).put (.int .i64 x) (.agg []) := by
  unfold idSet; rw [List.map_append]; exact setOf_snoc _ _ _
theorem any_ids (x : Int) : ∀ l : List Int, l.any ((fun y : Lit => y.sameKey (.int .i64 x)) ∘ Lit.int .i64) = l.contains x
  | [] => rfl
  | a :: r => by
    rw [List.any_cons, List.contains_cons, any_ids x r]
    congr 1
    show decide (IntKind.i64 = IntKind.i64 ∧ a = x) = (x == a)
    by_cases e : a = x
    · subst e; simp
    · have e' : ¬ x = a := fun h => e h.symm
      simp [e, e']
theorem has_ids (ids : List Int) (x : Int) : Maps.has (idSet ids) (.int .i64 x) = ids.contains x := by
  unfold idSet
  rw [has_setOf _ _ _ (fun y hy => by obtain ⟨_, _, rfl⟩ := List.mem_map.1 hy; trivial), List.any_map]
  exact any_ids x _
theorem intLaw : Keyed Tryz.prog 3 := int_keyed Tryz.underlying3
theorem zeroUnit (w : World) : (zeroValue 104).run Tryz.prog w = .ok (.agg #[]) w := by kernel_rfl
theorem fchecks_any (A : Option Addr) (l : List Fl) (c : Nat) (w : World) (hn : l.length ≤ 9223372036854775807) (ha : FailsAt w w.heap.size A l) : Calls Tryz.prog 34 #[.slice A l.length c] w fun e w' => e = .returned (.int .i64 (F.checks l)) ∧ Below w.heap.size w w' := by
  by_cases hm : 60 < l.length
  · have E := hid (F.checks_many hm)
    go_enter Tryz.func34, Tryz.ntmps34
    go_wp2
    go_ret
    exact ⟨by rw [E.out]; rfl, Below.refl _ _⟩
  have E := hid (F.checks_few (l := l) (by omega))
  have hmm := @run_makeMap Tryz.prog
  clear hn
  have hm2 : (l.length : Int) ≤ 60 := by omega
  go_enter Tryz.func34, Tryz.ntmps34
  go_wp2
  go_loopw [15] (fun i wr => ∃ k : Nat, k ≤ l.length ∧ i = .int .i64 k ∧ F.checks l = F.ckFrom ((l.take k).map (·.id)) (l.drop k) ∧ wr.ownsMap Tryz.prog 3 unitElem w.heap.size k (idSet ((l.take k).map (·.id))) ∧ Below w.heap.size w wr ∧ w.heap.size + 1 ≤ wr.heap.size) (fun i _ => l.length - (intOf i).toNat)
  case atStart => exact ⟨0, by omega, rfl, E.out, (show _ by rw [List.take_zero]; exact idSet_zero ▸ World.ownsMap_made _ _ _ _), balloc (Below.refl _ _) _, by simp⟩
  case round =>
    obtain ⟨k, hk, rfl, he, hown, hbw, hsz⟩ := hrel
    generalize hS : (l.take k).map (·.id) = S at *
    have HS := hid hS
    have HE := hid he
    clear he hS
    by_cases hlt : k < l.length
    · obtain ⟨b, off, rfl, hB, c0, c1, c2, c3, c4, c5, c6, c7, c8, c9⟩ := ha.keep hbw k hlt
      by_cases hc : F.chk l[k] = 0
      · have H0 := hid hc
        have hb0 : (F.chk l[k] != 0) = false := by rw [bne_eq_false_iff_eq]; exact hc
        have hkn := (F.chk_ok hc).1.1
        have hkey : keyOf Tryz.prog 3 (.int .i64 l[k].id) = some (.int .i64 l[k].id) := keyOf_int_mk Tryz.underlying3 (i64wf (by omega))
        clear hc hkn
        by_cases hmem : l[k].id ∈ S
        · have hh : Maps.has (idSet S) (.int .i64 l[k].id) = true := by rw [has_ids]; exact List.contains_iff_mem.2 hmem
          have HM := hid hmem
          clear hmem
          go_wp2_with (first
            | (go_at_call 56; refine (fcheck_c l[k] _).mono ?_; rintro e w1 ⟨rfl, hb1⟩; have hbw1 := bthen (balloc hbw _) hb1; have hown1 := (hown.alloc _).kept (only_of_below hb1 none) (by simp); obtain ⟨hc1, hf1⟩ := bcell hb1; have hz1 := hb1.size; (try simp at hz1); have hy1 : wr.heap.size < w1.heap.size := (by omega); have hx1 : w.heap.size < w1.heap.size := (by omega))
            | (at_lookup; refine wpList_lookup_own_unit _ rfl _ _ 102 rfl 3 104 intLaw Tryz.underlying102 (zeroUnit _) w.heap.size k _ rfl hown1 _ _ rfl hkey ?_)
            | (at_mapUpdate; refine wpList_mapUpdate_own _ rfl _ _ _ 102 rfl 3 104 intLaw Tryz.underlying102 (unitElem (H := Unit)) w.heap.size k _ rfl (hown1.alloc _) (by unfold maxLen; omega) _ _ _ rfl rfl hkey _ [] unitElem_mk ?_; intro w2 hown2 hgrow2))
          go_ret
          exact ⟨ret_int (by rw [HE.out, F.ckStep_twice hlt _ H0.out HM.out]), balloc hbw1 _⟩
        · have hh : Maps.has (idSet S) (.int .i64 l[k].id) = false := by rw [has_ids]; simpa using hmem
          have HM := hid hmem
          clear hmem
          go_wp2_with (first
            | (go_at_call 56; refine (fcheck_c l[k] _).mono ?_; rintro e w1 ⟨rfl, hb1⟩; have hbw1 := bthen (balloc hbw _) hb1; have hown1 := (hown.alloc _).kept (only_of_below hb1 none) (by simp); obtain ⟨hc1, hf1⟩ := bcell hb1; have hz1 := hb1.size; (try simp at hz1); have hy1 : wr.heap.size < w1.heap.size := (by omega); have hx1 : w.heap.size < w1.heap.size := (by omega))
            | (at_lookup; refine wpList_lookup_own_unit _ rfl _ _ 102 rfl 3 104 intLaw Tryz.underlying102 (zeroUnit _) w.heap.size k _ rfl hown1 _ _ rfl hkey ?_)
            | (at_mapUpdate; refine wpList_mapUpdate_own _ rfl _ _ _ 102 rfl 3 104 intLaw Tryz.underlying102 (unitElem (H := Unit)) w.heap.size k _ rfl (hown1.alloc _) (by unfold maxLen; omega) _ _ _ rfl rfl hkey _ [] unitElem_mk ?_; intro w2 hown2 hgrow2))
          go_roundw
          case rel =>
            refine ⟨k + 1, by omega, by go_num, by rw [HE.out, ← HS.out]; exact F.ckStep_on hlt H0.out (by rw [HS.out]; exact HM.out), ?_, ?_, ?_⟩
            · rw [F.ids_snoc hlt, idSet_snoc, HS.out]
              exact hown2.mono (by omega)
            · exact (balloc hbw1 _).grown hgrow2 (by simp; omega) (fun j hj => by cases hj; exact Nat.le_refl _)
            · have := hgrow2.size; simp at this; omega
          case measure => simp [intOf]; omega
      · have H0 := hid (F.ckStep_err hlt S hc)
        have hb0 : (F.chk l[k] != 0) = true := by rw [bne_iff_ne]; exact hc
        clear hc
        go_wp2_with (go_at_call 56; refine (fcheck_c l[k] _).mono ?_; rintro e w1 ⟨rfl, hb1⟩; have hbw1 := bthen (balloc hbw _) hb1)
        go_ret
        exact ⟨ret_int (by rw [HE.out, H0.out]), hbw1⟩
    · obtain rfl : k = l.length := by omega
      go_wp2
      go_ret
      exact ⟨ret_int (by rw [HE.out, F.ckEnd]), hbw⟩
def encF (f : Fl) : List Value := [.int .i64 f.id, .int .i64 f.fr, .int .i64 f.to, .int .i64 f.cl, .int .i64 f.pa, .int .i64 f.day, .int .i64 f.un, .int .i64 f.de, .int .i64 f.bo, .int .i64 f.pd]
theorem failsAt_of {w : World} {v : Value} {l : List Fl} (h : V.ArrIs w v 10 l.length (V.ga encF l)) : ∃ A c, v = .slice A l.length c ∧ l.length ≤ 9223372036854775807 ∧ FailsAt w w.heap.size A l := by
  obtain ⟨A, c, rfl, hn, _, hh⟩ := h
  refine ⟨A, c, rfl, hn, fun k hk => ?_⟩
  obtain ⟨a, rfl, hlt, _, hc⟩ := hh k hk
  rw [V.ga_at hk] at hc
  obtain ⟨a0, e0, _, _, hc0⟩ := hh 0 (by omega)
  injection e0 with e0
  subst e0
  rw [V.ga_at (by omega)] at hc0
  have h00 := hc0 0 (.int .i64 (l[0]'(by omega)).id) rfl
  obtain ⟨b, off, spot⟩ := a
  have hspot : spot = none := by
    have : (Addr.add ⟨b, off, spot⟩ (0 * 10 + 0)) = ⟨b, off, spot⟩ := rfl
    rw [this] at h00
    simpa using World.cell?_spot h00
  subst hspot
  have at' : ∀ j u, (encF l[k])[j]? = some u → w.cell? ⟨b, off + k * 10 + j, none⟩ = some u := fun j u hu => by
    have := hc j u hu
    rwa [Go.WideShapes.add_plain, ← Nat.add_assoc] at this
  exact ⟨b, off, rfl, hlt, at' 0 _ rfl, at' 1 _ rfl, at' 2 _ rfl, at' 3 _ rfl, at' 4 _ rfl, at' 5 _ rfl, at' 6 _ rfl, at' 7 _ rfl, at' 8 _ rfl, at' 9 _ rfl⟩
open V in
theorem v_fchecks (l : List Fl) : V.Fn Tryz.prog 34 [.arr 10 l.length (ga encF l)] [.one (.ref 0)] (.int .i64 (F.checks l)) :=
  ⟨by kernel_rfl, fun w ρ xs hr ha => by
    obtain ⟨x, r, rfl, ⟨hx, _⟩, rfl⟩ := ha
    obtain ⟨v, hv, hA⟩ := hr 0 _ rfl
    rw [hv] at hx
    injection hx with hx
    subst hx
    obtain ⟨A, c, rfl, hn, hF⟩ := failsAt_of hA
    exact fchecks_any A l c w hn hF⟩
end Go.Proofs.YtpanlcnoopmchaaGreatDoor

namespace Go.Proofs.YtpanlcnoopmchaaGreatDoor
open Go Go.RowKit V
theorem v_findc (f : Fl) (id : Int) : V.Fn Tryz.prog 58 [.cel [.val (.int .i64 id)]] [.agg [.val (.int .i64 f.id), .val (.int .i64 f.fr), .val (.int .i64 f.to), .val (.int .i64 f.cl), .val (.int .i64 f.pa), .val (.int .i64 f.day), .val (.int .i64 f.un), .val (.int .i64 f.de), .val (.int .i64 f.bo), .val (.int .i64 f.pd)], .one (.ptr 0 0 0 0)] (.bool (decide (f.id = id))) := by
  refine V.Fn.mk_ V.Tok V.mixed Tryz.func58 rfl Tryz.ntmps58 (by kernel_rfl) rfl rfl ?_
  repeat' ((conv => whnf); first | refine V.NCond.mk ?_ | refine V.NPick.l ?_ | refine V.NIf.not_ ?_ | refine V.NIf.dec_ ?_ | refine V.a4 ?_ | refine V.a5 ?_ | refine V.NIf.mk (fun _ => ?_) (fun _ => ?_) | refine V.a7 ?_ | refine V.a8 ?_ | refine V.a9 ?_ | refine V.NBoth.mk ?_ ?_ | refine V.b1 ?_ | refine V.b2 ?_ | refine V.NTF.dec ?_ | refine V.b3 ?_ | refine V.b4 ?_ | (refine V.NDraw.any (by kernel_rfl) ?_) | fail)
  exact ⟨_, rfl, by simp⟩
theorem v_index (l : List Fl) (id : Int) (hn : l.length ≤ 60) : V.Fn Tryz.prog 57 [.arr 10 l.length (ga encF l), .cel [.val (.int .i64 id)]] [.one (.ref 0), .one (.clo 58 [1])] (.int .i64 (F.idx id l 0)) := by
  refine V.Fn.mk_ V.Tok V.mixed Tryz.func57 rfl Tryz.ntmps57 (by kernel_rfl) rfl rfl ?_
  (conv => whnf)
  refine V.NLoop.go (fun (k : Nat) => [(8, .one (.val (.int .i64 k)))]) (fun (k : Nat) => []) [0, 1, 6, 7] [0, 1] (fun (k : Nat) => l.length - k) (fun (k : Nat) => k ≤ l.length ∧ F.idx id l 0 = F.idx id (l.drop k) k) 0 ⟨by omega, rfl⟩ V.S_ V.S_ (fun _ => ⟨rfl, rfl⟩) ?_; (conv => whnf); refine ⟨⟨rfl, rfl⟩, ?_⟩
  rintro k ⟨hk, hJ⟩
  repeat' ((conv => whnf); first | refine V.NCond.mk ?_ | refine V.NPick.l ?_ | refine V.NIf.not_ ?_ | refine V.NIf.dec_ ?_ | refine V.a4 ?_ | refine V.a5 ?_ | refine V.NIf.mk (fun _ => ?_) (fun _ => ?_) | refine V.a7 ?_ | refine V.a8 ?_ | refine V.a9 ?_ | refine V.NBoth.mk ?_ ?_ | refine V.b1 ?_ | refine V.b2 ?_ | refine V.NTF.dec ?_ | refine V.b3 ?_ | refine V.b4 ?_ | (refine NIdx.mk ⟨_, rfl, by omega, ?_⟩) | ((first | refine V.Fn.k (v_findc (l.getD k default) id) [1] rfl ?_ ?_ | refine V.Fn.q (v_findc (l.getD k default) id) [1] rfl ?_ ?_ | refine V.Fn.a (v_findc (l.getD k default) id) [1] rfl ?_ ?_); · exact V.D_) | (refine V.NDraw.any (by kernel_rfl) ?_) | fail)
  · refine congrArg (Value.int .i64) ?_
    rw [hJ, F.idxStep (by omega) id, if_pos (by rw [← getD_at]; assumption)]
  · (conv => whnf)
    refine V.NBack.at_ (k + 1) [] ⟨by omega, ?_⟩ (by omega) V.S_ rfl V.S_ V.S_ V.S_
    rw [hJ, F.idxStep (by omega) id, if_neg (by rw [← getD_at]; assumption)]
  · obtain rfl : k = l.length := by omega
    exact congrArg (Value.int .i64) (by rw [hJ, F.idxEnd])
theorem v_ffind (l : List Fl) (id : Int) : V.Fn Tryz.prog 35 [.arr 10 l.length (ga encF l)] [.one (.ref 0), .one (.val (.int .i64 id))] (.tuple #[.int .i64 (F.fndV id l), .int .i64 (F.fndE id l)]) := by
  have h60 : F.checks l = 0 → l.length ≤ 60 := fun h => F.checks_len (by rw [h]; decide)
  refine V.Fn.mk_ V.Tok V.mixed Tryz.func35 rfl Tryz.ntmps35 (by kernel_rfl) rfl rfl ?_
  repeat' ((conv => whnf); first | refine V.NCond.mk ?_ | refine V.NPick.l ?_ | refine V.NIf.not_ ?_ | refine V.NIf.dec_ ?_ | refine V.a4 ?_ | refine V.a5 ?_ | refine V.NIf.mk (fun _ => ?_) (fun _ => ?_) | refine V.a7 ?_ | refine V.a8 ?_ | refine V.a9 ?_ | refine V.NBoth.mk ?_ ?_ | refine V.b1 ?_ | refine V.b2 ?_ | refine V.NTF.dec ?_ | refine V.b3 ?_ | refine V.b4 ?_ | ((first | refine V.Fn.k (v_fchecks l) [0] rfl ?_ ?_ | refine V.Fn.q (v_fchecks l) [0] rfl ?_ ?_ | refine V.Fn.a (v_fchecks l) [0] rfl ?_ ?_); · exact V.D_) | ((first | refine V.Fn.k (v_index l id (h60 (by assumption))) [0, 1] rfl ?_ ?_ | refine V.Fn.q (v_index l id (h60 (by assumption))) [0, 1] rfl ?_ ?_ | refine V.Fn.a (v_index l id (h60 (by assumption))) [0, 1] rfl ?_ ?_); · exact V.D_) | (refine V.NDraw.any (by kernel_rfl) ?_) | fail)
  · rename_i h k
    rw [(F.fnd_2 h k).1, (F.fnd_2 h k).2]; exact V.S_
  · rename_i h k
    rw [(F.fnd_3 h k).1, (F.fnd_3 h k).2]; exact V.S_
  · rename_i h
    rw [(F.fnd_1 h).1, (F.fnd_1 h).2]; exact V.S_
end Go.Proofs.YtpanlcnoopmchaaGreatDoor

namespace Go.Proofs.YtpanlcnoopmchaaGreatDoor
open Go Go.RowKit V
namespace F
def s0 : Fl := ⟨7, 1, 2, 0, 3, 739935, 100, 0, 0, 0⟩
def l1 : List Fl := [s0]
end F
theorem v_some : V.Fn Tryz.prog 9 [] [] (.agg #[.int .i64 (F.s0).id, .int .i64 (F.s0).fr, .int .i64 (F.s0).to, .int .i64 (F.s0).cl, .int .i64 (F.s0).pa, .int .i64 (F.s0).day, .int .i64 (F.s0).un, .int .i64 (F.s0).de, .int .i64 (F.s0).bo, .int .i64 (F.s0).pd]) := by
  refine V.Fn.mk_ V.Tok V.mixed Tryz.func9 rfl Tryz.ntmps9 (by kernel_rfl) rfl rfl ?_
  repeat' ((conv => whnf); first | refine V.NCond.mk ?_ | refine V.NPick.l ?_ | refine V.NIf.not_ ?_ | refine V.NIf.dec_ ?_ | refine V.a4 ?_ | refine V.a5 ?_ | refine V.NIf.mk (fun _ => ?_) (fun _ => ?_) | refine V.a7 ?_ | refine V.a8 ?_ | refine V.a9 ?_ | refine V.NBoth.mk ?_ ?_ | refine V.b1 ?_ | refine V.b2 ?_ | refine V.NTF.dec ?_ | refine V.b3 ?_ | refine V.b4 ?_ | (refine V.NDraw.any (by kernel_rfl) ?_) | fail)
  exact V.S_
end Go.Proofs.YtpanlcnoopmchaaGreatDoor

namespace Go.Proofs.YtpanlcnoopmchaaGreatDoor
namespace Ag
open Ca (Day stp W)
def A : Tm := ⟨4, 7, 2, 100⟩
theorem a_1 : d1 W A 739935 = 739942 := (Ca.stp_p (by decide)).trans (Ca.stU_is (by unfold Ca.Up; decide))
theorem a_2 : d2 W A 739935 = 739951 := by
  unfold d2; rw [a_1]; exact (Ca.stp_p (by decide)).trans (Ca.stU_is (by unfold Ca.Up; decide))
theorem a_3 : d3 W A 739935 = 739953 := by
  unfold d3; rw [a_2]; exact (Ca.stp_p (by decide)).trans (Ca.stU_is (by unfold Ca.Up; decide))
theorem a_th : There W A 739935 := ⟨by rw [a_1]; decide, by rw [a_2]; decide, by rw [a_3]; decide⟩
end Ag
end Go.Proofs.YtpanlcnoopmchaaGreatDoor

namespace Go.Proofs.YtpanlcnoopmchaaGreatDoor
namespace Pn
def Ok (u p r : Int) : Prop := (0 ≤ u ∧ u ≤ 1073741824) ∧ P.Ok p ∧ (0 ≤ r ∧ r ≤ 1000000)
instance (u p r : Int) : Decidable (Ok u p r) := by unfold Ok; exact inferInstance
def cs (u p r : Int) : Int := P.cost u p * r / 1000000
def dE (u p r : Int) : Int := if Ok u p r then 0 else 3
def dV (u p r : Int) : Int := if Ok u p r then cs u p r else 0
theorem d_yes {u p r : Int} (h : Ok u p r) : dE u p r = 0 ∧ dV u p r = cs u p r := ⟨if_pos h, if_pos h⟩
theorem d_no {u p r : Int} (h : ¬ Ok u p r) : dE u p r = 3 ∧ dV u p r = 0 := ⟨if_neg h, if_neg h⟩
theorem mill_bd {n r : Int} (hn : 0 ≤ n) (hr : 0 ≤ r ∧ r ≤ 1000000) : 0 ≤ n * r / 1000000 ∧ n * r / 1000000 ≤ n := by
  have h1 := Int.mul_nonneg hn hr.1
  have h2 := Int.mul_le_mul_of_nonneg_left hr.2 hn
  generalize n * r = x at *
  omega
theorem part_mill {n r : Int} (hn : 0 ≤ n ∧ n ≤ 1152921504606846976) (hr : 0 ≤ r ∧ r ≤ 1000000) : M.prE n r 1000000 = 0 ∧ M.prQ n r 1000000 = n * r / 1000000 := by
  have h := mill_bd hn.1 hr
  have k : M.POk n r 1000000 := ⟨by unfold M.Amt; omega, by omega, by omega⟩
  have a : M.Amt (n * r / 1000000) := by unfold M.Amt; omega
  exact ⟨(M.pr_3 k a).1, (M.pr_3 k a).2.1⟩
theorem cs_part {u p r : Int} (h : Ok u p r) : M.prE (P.cost u p) r 1000000 = 0 ∧ M.prQ (P.cost u p) r 1000000 = cs u p r := by
  have a := P.cost_bd h.1 h.2.1
  exact part_mill (by omega) h.2.2
def tE (t : List Tm) : Int := if t.length ≠ 6 then 1 else if ∀ x ∈ t, Ag.Wi x then 0 else 3
theorem tE_ok {t : List Tm} (h : tE t = 0) : t.length = 6 ∧ ∀ x ∈ t, Ag.Wi x := by
  unfold tE at h
  split at h
  · omega
  · split at h
    · exact ⟨by omega, by assumption⟩
    · omega
theorem tE_of {t : List Tm} (h1 : t.length = 6) (h2 : ∀ x ∈ t, Ag.Wi x) : tE t = 0 := by unfold tE; rw [if_neg (by omega), if_pos h2]
theorem tE_bad {t : List Tm} (h1 : t.length = 6) {x : Tm} (hx : x ∈ t) (h2 : ¬ Ag.Wi x) : tE t = 3 := by unfold tE; rw [if_neg (by omega), if_neg fun q => h2 (q x hx)]
theorem tE_len {t : List Tm} (h : t.length ≠ 6) : tE t = 1 := if_pos h
noncomputable def oE (c : Cl) (n : Int) : Int := if Ca.e1 c n ≠ 0 then Ca.e1 c n else if Ca.isV c n = true then 0 else 4
noncomputable def yE (c : Cl) (t : List Tm) (l : List Fl) (ps : List Int) (n : Int) : Int :=
  if Ca.chk c ≠ 0 then Ca.chk c else if tE t ≠ 0 then tE t else if F.checks l ≠ 0 then F.checks l else if P.chks ps ≠ 0 then P.chks ps else oE c n
def cl (t : List Tm) (f : Fl) : Tm := t.getD f.cl.toNat default
noncomputable def eF (c : Cl) (t : List Tm) (n : Int) (f : Fl) : Int := Ag.sE c (cl t f) f n
noncomputable def qF (t : List Tm) (ps : List Int) (f : Fl) : Int := cs (F.left f) (P.pr ps f.pa) (cl t f).ra
def Late (s : Int) : Prop := s ≠ 0 ∧ s ≠ 5
noncomputable def du1 (c : Cl) (t : List Tm) (ps : List Int) (n : Int) (f : Fl) : List Du := open Classical in if Late (Ag.sV c (cl t f) f n) ∧ 0 < qF t ps f then [⟨f.fr, f.to, qF t ps f⟩] else []
noncomputable def dus (c : Cl) (t : List Tm) (ps : List Int) (n : Int) (l : List Fl) : List Du := l.flatMap (du1 c t ps n)
noncomputable def yD (c : Cl) (t : List Tm) (l : List Fl) (ps : List Int) (n : Int) : Int := if yE c t l ps n ≠ 0 then yE c t l ps n else fb (eF c t n) l
noncomputable def yL (c : Cl) (t : List Tm) (l : List Fl) (ps : List Int) (n : Int) : List Du := if yD c t l ps n = 0 then dus c t ps n l else []
theorem dus_snoc {c : Cl} {t : List Tm} {ps : List Int} {n : Int} {l : List Fl} {k : Nat} (h : k < l.length) : dus c t ps n (l.take (k + 1)) = dus c t ps n (l.take k) ++ du1 c t ps n (l.getD k default) := by
  unfold dus
  rw [List.take_succ_eq_append_getElem h, List.flatMap_append, ← getD_at h]
  simp
theorem du1_len (c : Cl) (t : List Tm) (ps : List Int) (n : Int) (f : Fl) : (du1 c t ps n f).length ≤ 1 := by
  unfold du1; split <;> simp
theorem dus_len (c : Cl) (t : List Tm) (ps : List Int) (n : Int) : ∀ l : List Fl, (dus c t ps n l).length ≤ l.length
  | [] => by simp [dus]
  | f :: r => by
    have h := dus_len c t ps n r
    have h2 := du1_len c t ps n f
    unfold dus at *
    rw [List.flatMap_cons, List.length_append, List.length_cons]
    omega
theorem du1_yes {c : Cl} {t : List Tm} {ps : List Int} {n : Int} {f : Fl} (h : Late (Ag.sV c (cl t f) f n)) (h2 : 0 < qF t ps f) : du1 c t ps n f = [⟨f.fr, f.to, qF t ps f⟩] := if_pos ⟨h, h2⟩
theorem du1_no {c : Cl} {t : List Tm} {ps : List Int} {n : Int} {f : Fl} (h : ¬ (Late (Ag.sV c (cl t f) f n) ∧ 0 < qF t ps f)) : du1 c t ps n f = [] := if_neg h
structure Right (c : Cl) (t : List Tm) (l : List Fl) (ps : List Int) (n : Int) : Prop where
  kc : Ca.chk c = 0
  kt : tE t = 0
  kl : F.checks l = 0
  kp : P.chks ps = 0
  ko : oE c n = 0
theorem yE_0 {c : Cl} {t : List Tm} {l : List Fl} {ps : List Int} {n : Int} (h : yE c t l ps n = 0) : Right c t l ps n := by
  unfold yE at h
  split at h
  · exact absurd h (by assumption)
  · split at h
    · exact absurd h (by assumption)
    · split at h
      · exact absurd h (by assumption)
      · split at h
        · exact absurd h (by assumption)
        · exact ⟨by omega, by omega, by omega, by omega, h⟩
theorem yE_of {c : Cl} {t : List Tm} {l : List Fl} {ps : List Int} {n : Int} (h : Right c t l ps n) : yE c t l ps n = 0 := by
  unfold yE
  rw [if_neg (by have := h.kc; omega), if_neg (by have := h.kt; omega), if_neg (by have := h.kl; omega), if_neg (by have := h.kp; omega), h.ko]
theorem yE_1 {c : Cl} {t : List Tm} {l : List Fl} {ps : List Int} {n : Int} (h : ¬ Ca.chk c = 0) : yE c t l ps n = Ca.chk c := if_pos h
theorem yE_2 {c : Cl} {t : List Tm} {l : List Fl} {ps : List Int} {n : Int} (h : Ca.chk c = 0) (h2 : ¬ tE t = 0) : yE c t l ps n = tE t := (if_neg (by omega)).trans (if_pos h2)
theorem yE_3 {c : Cl} {t : List Tm} {l : List Fl} {ps : List Int} {n : Int} (h : Ca.chk c = 0) (h2 : tE t = 0) (h3 : ¬ F.checks l = 0) : yE c t l ps n = F.checks l := (if_neg (by omega)).trans ((if_neg (by omega)).trans (if_pos h3))
theorem yE_4 {c : Cl} {t : List Tm} {l : List Fl} {ps : List Int} {n : Int} (h : Ca.chk c = 0) (h2 : tE t = 0) (h3 : F.checks l = 0) (h4 : ¬ P.chks ps = 0) : yE c t l ps n = P.chks ps := (if_neg (by omega)).trans ((if_neg (by omega)).trans ((if_neg (by omega)).trans (if_pos h4)))
theorem yE_5 {c : Cl} {t : List Tm} {l : List Fl} {ps : List Int} {n : Int} (h : Ca.chk c = 0) (h2 : tE t = 0) (h3 : F.checks l = 0) (h4 : P.chks ps = 0) : yE c t l ps n = oE c n := (if_neg (by omega)).trans ((if_neg (by omega)).trans ((if_neg (by omega)).trans (if_neg (by omega))))
theorem y_no {c : Cl} {t : List Tm} {l : List Fl} {ps : List Int} {n : Int} (h : ¬ yE c t l ps n = 0) : yD c t l ps n = yE c t l ps n ∧ yL c t l ps n = [] := by
  have e : yD c t l ps n = yE c t l ps n := if_pos h
  exact ⟨e, if_neg (by rw [e]; exact h)⟩
theorem y_bad {c : Cl} {t : List Tm} {l : List Fl} {ps : List Int} {n : Int} (h : yE c t l ps n = 0) (h2 : ¬ fb (eF c t n) l = 0) : yD c t l ps n = fb (eF c t n) l ∧ yL c t l ps n = [] := by
  have e : yD c t l ps n = fb (eF c t n) l := if_neg (by omega)
  exact ⟨e, if_neg (by rw [e]; exact h2)⟩
theorem y_yes {c : Cl} {t : List Tm} {l : List Fl} {ps : List Int} {n : Int} (h : yE c t l ps n = 0) (h2 : fb (eF c t n) l = 0) : yD c t l ps n = 0 ∧ yL c t l ps n = dus c t ps n l := by
  have e : yD c t l ps n = 0 := (if_neg (by omega)).trans h2
  exact ⟨e, if_pos e⟩
theorem y_ok {c : Cl} {t : List Tm} {l : List Fl} {ps : List Int} {n : Int} (h : yD c t l ps n = 0) : Right c t l ps n ∧ (∀ f ∈ l, eF c t n f = 0) ∧ yL c t l ps n = dus c t ps n l := by
  unfold yD at h
  split at h
  · exact absurd h (by assumption)
  · have h1 : yE c t l ps n = 0 := by omega
    exact ⟨yE_0 h1, fb_ok h, (y_yes h1 h).2⟩
theorem all_ok {fs : List Fl} (h : F.checks fs = 0) : ∀ f ∈ fs, F.Ok f := by
  have h60 : fs.length ≤ 60 := F.checks_len (by omega)
  unfold F.checks at h
  rw [if_neg (by omega)] at h
  obtain ⟨a, b⟩ := F.ckFrom_ok h
  exact fun f hf => F.chk_ok (a f hf).1
theorem qF_ok {t : List Tm} {ps : List Int} {f : Fl} (ht : tE t = 0) (hp : P.chks ps = 0) (hf : F.Ok f) : Ok (F.left f) (P.pr ps f.pa) (cl t f).ra := by
  obtain ⟨t1, t2⟩ := tE_ok ht
  have b := F.ok_bounds hf
  obtain ⟨⟨_, _, _, hc, ha, _⟩, _⟩ := hf
  have w := t2 (cl t f) (getD_mem (by omega))
  exact ⟨by omega, P.pr_ok hp ha, w.2.2.2⟩
theorem late_iff {c : Cl} {t : Tm} {f : Fl} {n : Int} (h : Ag.sE c t f n = 0) : Late (Ag.sV c t f n) ↔ 1 ≤ Ag.stg c t f n ∧ Ag.stg c t f n ≤ 4 := by
  rw [Ag.sV_yes h]
  have b : 0 ≤ Ag.stg c t f n ∧ Ag.stg c t f n ≤ 5 := by
    unfold Ag.stg
    split
    · omega
    · have o : ∀ (p : Prop) [Decidable p], 0 ≤ Ag.one p ∧ Ag.one p ≤ 1 := fun p _ => by unfold Ag.one; split <;> omega
      have o1 := o (f.day < n)
      have o2 := o (Ag.d1 c t f.day < n)
      have o3 := o (Ag.d2 c t f.day < n)
      have o4 := o (Ag.d3 c t f.day < n)
      omega
  unfold Late
  omega
end Pn
end Go.Proofs.YtpanlcnoopmchaaGreatDoor

namespace Go.Proofs.YtpanlcnoopmchaaGreatDoor
open Go Go.RowKit V
namespace M
end M
namespace M
end M
namespace M
end M
end Go.Proofs.YtpanlcnoopmchaaGreatDoor

namespace Go.Proofs.YtpanlcnoopmchaaGreatDoor
open Go Go.RowKit V
theorem v_pcheck (p : Int) : V.Fn Tryz.prog 51 [] [.one (.val (.int .i64 p))] (.int .i64 (P.chk p)) := by
  refine V.Fn.mk_ V.Tok V.mixed Tryz.func51 rfl Tryz.ntmps51 (by kernel_rfl) rfl rfl ?_
  repeat' ((conv => whnf); first | refine V.NCond.mk ?_ | refine V.NPick.l ?_ | refine V.NIf.not_ ?_ | refine V.NIf.dec_ ?_ | refine V.a4 ?_ | refine V.a5 ?_ | refine V.NIf.mk (fun _ => ?_) (fun _ => ?_) | refine V.a7 ?_ | refine V.a8 ?_ | refine V.a9 ?_ | refine V.NBoth.mk ?_ ?_ | refine V.b1 ?_ | refine V.b2 ?_ | refine V.NTF.dec ?_ | refine V.b3 ?_ | refine V.b4 ?_ | (refine V.NDraw.any (by kernel_rfl) ?_) | fail)
  all_goals ((conv => whnf); refine congrArg _ ?_; unfold P.chk P.Ok; (repeat' split) <;> first | rfl | omega | (exfalso; omega) | (simp_all; done) | (simp_all; omega))
theorem v_cost (u p : Int) : V.Fn Tryz.prog 98 [] [.one (.val (.int .i64 u)), .one (.val (.int .i64 p))] (.tuple #[.int .i64 (M.prQ u p 10000), .int .i64 (M.prR u p 10000), .int .i64 (M.prE u p 10000)]) := by
  have h1 : ¬ M.chk u = 0 → M.prE u p 10000 = 3 ∧ M.prQ u p 10000 = 0 ∧ M.prR u p 10000 = 0 ∧ M.chk u = 3 := fun h => by
    by_cases q : M.Amt u
    · exact absurd (M.chk_yes q) h
    · obtain ⟨a, b, c⟩ := M.pr_1 (a := u) (b := p) (c := 10000) (fun k => q k.1)
      exact ⟨a, b, c, M.chk_no q⟩
  have h2 : ¬ P.chk p = 0 → M.prE u p 10000 = 3 ∧ M.prQ u p 10000 = 0 ∧ M.prR u p 10000 = 0 ∧ P.chk p = 3 := fun h => by
    by_cases q : P.Ok p
    · exact absurd (P.chk_yes q) h
    · obtain ⟨a, b, c⟩ := M.pr_1 (a := u) (b := p) (c := 10000) (fun k => q k.2.1)
      exact ⟨a, b, c, P.chk_no q⟩
  refine V.Fn.mk_ V.Tok V.mixed Tryz.func98 rfl Tryz.ntmps98 (by kernel_rfl) rfl rfl ?_
  repeat' ((conv => whnf); first | refine V.NCond.mk ?_ | refine V.NPick.l ?_ | refine V.NIf.not_ ?_ | refine V.NIf.dec_ ?_ | refine V.a4 ?_ | refine V.a5 ?_ | refine V.NIf.mk (fun _ => ?_) (fun _ => ?_) | refine V.a7 ?_ | refine V.a8 ?_ | refine V.a9 ?_ | refine V.NBoth.mk ?_ ?_ | refine V.b1 ?_ | refine V.b2 ?_ | refine V.NTF.dec ?_ | refine V.b3 ?_ | refine V.b4 ?_ | (first | refine V.Fn.k0 (v_check _) rfl ?_ | refine V.Fn.q0 (v_check _) rfl ?_ | refine V.Fn.a0 (v_check _) rfl ?_) | (first | refine V.Fn.k0 (v_pcheck _) rfl ?_ | refine V.Fn.q0 (v_pcheck _) rfl ?_ | refine V.Fn.a0 (v_pcheck _) rfl ?_) | (first | refine V.Fn.k0 (v_part _ _ _) rfl ?_ | refine V.Fn.q0 (v_part _ _ _) rfl ?_ | refine V.Fn.a0 (v_part _ _ _) rfl ?_) | (refine V.NDraw.any (by kernel_rfl) ?_) | fail)
  all_goals (conv => whnf)
  · exact V.S_
  · obtain ⟨a, b, c, d⟩ := h2 (by assumption)
    rw [a, b, c, d]; exact V.S_
  · obtain ⟨a, b, c, d⟩ := h1 (by assumption)
    rw [a, b, c, d]; exact V.S_
theorem v_prices (l : List Int) (hn : l.length ≤ 9223372036854775807) : V.Fn Tryz.prog 26 [.arr 1 l.length (ga e1 l)] [.one (.ref 0)] (.int .i64 (P.chks l)) := by
  refine V.Fn.mk_ V.Tok V.mixed Tryz.func26 rfl Tryz.ntmps26 (by kernel_rfl) rfl rfl ?_
  repeat' ((conv => whnf); first | refine V.NCond.mk ?_ | refine V.NPick.l ?_ | refine V.NIf.not_ ?_ | refine V.NIf.dec_ ?_ | refine V.a4 ?_ | refine V.a5 ?_ | refine V.NIf.mk (fun _ => ?_) (fun _ => ?_) | refine V.a7 ?_ | refine V.a8 ?_ | refine V.a9 ?_ | refine V.NBoth.mk ?_ ?_ | refine V.b1 ?_ | refine V.b2 ?_ | refine V.NTF.dec ?_ | refine V.b3 ?_ | refine V.b4 ?_ | (refine V.NDraw.any (by kernel_rfl) ?_) | fail)
  all_goals (conv => whnf)
  rotate_left
  · exact V.fin1 (if_pos (by omega))
  refine V.NLoop.auto (fun (k : Nat) => [(11, .one (.val (.int .i64 k)))]) (fun (k : Nat) => []) [] [] (fun (k : Nat) => l.length - k) (fun (k : Nat) => k ≤ l.length ∧ ∀ p ∈ l.take k, P.Ok p) 0 ⟨Nat.zero_le _, by simp⟩ V.S_ V.S_ (fun _ => ⟨rfl, rfl⟩) ?_; (conv => whnf); refine ⟨⟨rfl, rfl⟩, ?_⟩
  rintro k ⟨hk, hJ⟩
  by_cases hlt : k < l.length
  · have hy := @P.chk_yes (l.getD k default)
    have hn := @P.chk_no (l.getD k default)
    by_cases ok : P.Ok (l.getD k default)
    · have e := hy ok
      repeat' ((conv => whnf); first | refine V.NCond.mk ?_ | refine V.NPick.l ?_ | refine V.NIf.not_ ?_ | refine V.NIf.dec_ ?_ | refine V.a4 ?_ | refine V.a5 ?_ | refine V.NIf.mk (fun _ => ?_) (fun _ => ?_) | refine V.a7 ?_ | refine V.a8 ?_ | refine V.a9 ?_ | refine V.NBoth.mk ?_ ?_ | refine V.b1 ?_ | refine V.b2 ?_ | refine V.NTF.dec ?_ | refine V.b3 ?_ | refine V.b4 ?_ | (refine NIdx.mk ⟨k, rfl, by omega, ?_⟩) | (first | refine V.Fn.k0 (v_pcheck _) rfl ?_ | refine V.Fn.q0 (v_pcheck _) rfl ?_ | refine V.Fn.a0 (v_pcheck _) rfl ?_) | (refine V.NDraw.any (by kernel_rfl) ?_) | fail)
      all_goals (conv => whnf)
      all_goals exact V.NBack.at_ (k + 1) [] ⟨by omega, all_snoc hlt hJ ok⟩ (by omega) V.S_ rfl V.S_ V.S_ V.S_
    · have e := hn ok
      have e2 := P.chks_bad (by omega) (getD_mem hlt) ok
      repeat' ((conv => whnf); first | refine V.NCond.mk ?_ | refine V.NPick.l ?_ | refine V.NIf.not_ ?_ | refine V.NIf.dec_ ?_ | refine V.a4 ?_ | refine V.a5 ?_ | refine V.NIf.mk (fun _ => ?_) (fun _ => ?_) | refine V.a7 ?_ | refine V.a8 ?_ | refine V.a9 ?_ | refine V.NBoth.mk ?_ ?_ | refine V.b1 ?_ | refine V.b2 ?_ | refine V.NTF.dec ?_ | refine V.b3 ?_ | refine V.b4 ?_ | (refine NIdx.mk ⟨k, rfl, by omega, ?_⟩) | (first | refine V.Fn.k0 (v_pcheck _) rfl ?_ | refine V.Fn.q0 (v_pcheck _) rfl ?_ | refine V.Fn.a0 (v_pcheck _) rfl ?_) | (refine V.NDraw.any (by kernel_rfl) ?_) | fail)
      all_goals (conv => whnf)
      all_goals exact V.fin1 (by omega)
  · have e := P.chks_of (l := l) (by omega) (all_whole (by omega) hJ)
    repeat' ((conv => whnf); first | refine V.NCond.mk ?_ | refine V.NPick.l ?_ | refine V.NIf.not_ ?_ | refine V.NIf.dec_ ?_ | refine V.a4 ?_ | refine V.a5 ?_ | refine V.NIf.mk (fun _ => ?_) (fun _ => ?_) | refine V.a7 ?_ | refine V.a8 ?_ | refine V.a9 ?_ | refine V.NBoth.mk ?_ ?_ | refine V.b1 ?_ | refine V.b2 ?_ | refine V.NTF.dec ?_ | refine V.b3 ?_ | refine V.b4 ?_ | (refine V.NDraw.any (by kernel_rfl) ?_) | fail)
    all_goals (conv => whnf)
    all_goals exact V.fin1 (by omega)
end Go.Proofs.YtpanlcnoopmchaaGreatDoor

namespace Go.Proofs.YtpanlcnoopmchaaGreatDoor.V
open Go Go.RowKit
def lpK (obs : Obs) (i : Nat) (K : Lc → Env → Lst → Prop) : Prop := fndK obs i fun o => match o with
  | .lp L env st => K L env st
  | _ => False
theorem lpK_spec {obs : Obs} {i : Nat} {K : Lc → Env → Lst → Prop} (h : lpK obs i K) : ∃ L env st, fnd obs i = some (.lp L env st) ∧ K L env st := by
  obtain ⟨o, ho, h⟩ := fndK_spec h
  cases o <;> first | exact h.elim | exact ⟨_, _, _, ho, h⟩
def zipK (sz : Nat) : List Nat → List SV → Env → (Env → Prop) → Prop
  | [], [], env, K => K env
  | p :: ps, v :: vs, env, K => match Nat.blt p sz with
    | true => zipK sz ps vs ((p, v) :: env) K
    | false => False
  | _, _, _, _ => False
theorem zip_spec {sz : Nat} {ρ : Rho} : ∀ {ps : List Nat} {vs : List SV} {xs : List Value} {env : Env} {tmps : Array Value} {K : Env → Prop}, EnvR sz ρ env { tmps := tmps, defers := [] } → Svs ρ vs xs → zipK sz ps vs env K →
    ∃ env', K env' ∧ xs.length = ps.length ∧ EnvR sz ρ env' { tmps := (ps.zip xs).foldl (fun t (p : Nat × Value) => t.setIfInBounds p.1 p.2) tmps, defers := [] }
  | [], [], xs, env, tmps, K, hE, hs, h => by
    have e : xs = [] := hs
    subst e
    exact ⟨env, h, rfl, hE⟩
  | p :: ps, v :: vs, xs, env, tmps, K, hE, ⟨x, r, e, hv, hr⟩, h => by
    subst e
    unfold zipK at h
    cases hb : Nat.blt p sz <;> simp only [hb] at h
    have hd : p < sz := by simpa [Nat.blt_eq] using hb
    have hsz : tmps.size = sz := hE.size
    have hE' : EnvR sz ρ ((p, v) :: env) { tmps := tmps.setIfInBounds p x, defers := [] } := by
      refine ⟨by simp [hsz], fun t u hu => ?_⟩
      rcases fnd_cons hu with ⟨rfl, rfl⟩ | ⟨hn, hu⟩
      · exact ⟨x, by simp [hsz, hd], SV.is_of1 hv⟩
      · obtain ⟨y, hy, h2⟩ := hE.env t u hu
        exact ⟨y, by rw [Array.getElem?_setIfInBounds_ne hn]; exact hy, h2⟩
    obtain ⟨env', hK, hl, hE2⟩ := zip_spec hE' hr h
    exact ⟨env', hK, by simp [hl], hE2⟩
  | [], _ :: _, _, _, _, _, _, _, h => h.elim
  | _ :: _, [], _, _, _, _, _, _, h => h.elim
def rndK (i : Nat) (K : SV → Obs → Nat → Prop) : Kon := fun e _ obs nx => lpK obs i fun L env st => match st with
  | .busy => match e with
    | .nrm => K (.one (.tf true)) ((i, .lp L env .ready) :: obs) nx
    | .exit id => K (.one (.tf false)) ((i, .lp L env (.done (.exit id))) :: obs) nx
    | .ret => K (.one (.tf false)) ((i, .lp L env (.done .ret)) :: obs) nx
  | _ => False
def endK (i : Nat) (env : Env) (K : Kon) (obs : Obs) (nx : Nat) : Prop := lpK obs i fun _ _ st => match st with
  | .ready => K .nrm env ((i, .gone) :: obs) nx
  | .done (.exit id) => K (.exit id) env ((i, .gone) :: obs) nx
  | .done .ret => K .ret env ((i, .gone) :: obs) nx
  | _ => False
theorem put_below {B l : Nat} {w : World} (h : B ≤ l) (o : Obj) : Below B w (w.putObj l o) :=
  ⟨rfl, rfl, rfl, by rw [World.putObj_size]; exact Nat.le_refl _, fun k hk => World.putObj_heap_other (by omega)⟩
theorem put_oth {l : Nat} {w : World} {r : Loop} (h : w.heap[l]? = some (.loop r)) (o : Obj) : Oth w (w.putObj l o) :=
  oth_one (b := l) (fun k hk => World.putObj_heap_other hk) fun D e => by rw [h] at e; cases e
theorem Cls.lpset {B nx : Nat} {ρ : Rho} {obs : Obs} {w : World} {i l : Nat} {L : Lc} {env : Env} {st : Lst} (hC : Cls B ρ obs nx w) (ho : fnd obs i = some (.lp L env st)) (hl : ρ i = some (.func (.yield l) #[] #[])) :
    ∃ fn tmps D, B ≤ l ∧ w.heap[l]? = some (.loop { state := st.state, pending := st.pend, fn := fn, tmps := tmps, params := L.ps.toArray, assign := L.assign, body := L.body, defers := D }) ∧
      ∀ st' : Lst, Cls B ρ ((i, .lp L env st') :: obs) nx (w.putObj l (.loop { state := st'.state, pending := st'.pend, fn := fn, tmps := tmps, params := L.ps.toArray, assign := L.assign, body := L.body, defers := D })) := by
  obtain ⟨l', fn, tmps, D, e, hB, hh, hE⟩ := hC.sat i _ ho
  rw [hl] at e
  have e : l = l' := by injection e with e; injection e with e; injection e
  subst e
  have hf : ∀ st' : Lst, foot ρ i (.lp L env st') = some l := fun st' => by simp [foot, hl]
  exact ⟨fn, tmps, D, hB, hh, fun st' => hC.set ho rfl (hf st) (.inl (hf st')) rfl World.putObj_size (fun k hk => World.putObj_heap_other hk)
    ⟨l, fn, tmps, D, hl, hB, World.putObj_heap_same (Array.getElem?_eq_some_iff.1 hh).1, hE⟩⟩
theorem Cls.kill {B nx : Nat} {ρ : Rho} {obs : Obs} {w w' : World} {i b : Nat} {o : Ob} (h : Cls B ρ obs nx w) (ho : fnd obs i = some o) (hm : o.mut = true) (hf : foot ρ i o = some b) (hsz : w'.heap.size = w.heap.size) (hk : ∀ k, k ≠ b → w'.heap[k]? = w.heap[k]?) : Cls B ρ ((i, .gone) :: obs) nx w' := by
  refine ⟨by rw [hsz]; exact h.le, fun j u hu => ?_, fun j k o1 o2 c h1 h2 hne hmu hf1 => ?_, h.new, Apx.cons (o' := .gone) h.apx (fun _ _ _ _ => rfl) fun _ _ _ _ _ _ q => by cases q⟩
  · rcases fnd_cons hu with ⟨rfl, rfl⟩ | ⟨hn, hu⟩
    · trivial
    · exact (h.sat j u hu).keep (by omega) (fun c hc => hk c (fun e => by subst e; exact h.apart i j o u c ho hu hn hm hf hc)) fun c hc => hk c fun e => by subst e; exact (h.apx j i u o c hu ho hc).1 hf
  · rcases fnd_cons h1 with ⟨rfl, rfl⟩ | ⟨hn1, h1⟩
    · cases hf1
    · rcases fnd_cons h2 with ⟨rfl, rfl⟩ | ⟨hn2, h2⟩
      · intro e; cases e
      · exact h.apart j k o1 o2 c h1 h2 hne hmu hf1
theorem NYield.mk_ {P : Program} {T : TT} (hT : TTok P T) (hm : P.follows .mixedOrders = true) {i : Nat} {L : Lc} {env0 : Env} {sz : Nat} {ps : List Nat} {assign body : Code} (hL : L = ⟨sz, ps, assign, body⟩) (hc : (calm assign && calm body) = true)
    {args : List SV} {obs : Obs} {nx : Nat} {K : SV → Obs → Nat → Prop} (ho : fnd obs i = some (.lp L env0 .ready))
    (h : zipK sz ps args env0 fun env => vc P T sz nx assign env obs nx fun e env1 obs1 nx1 => match e with
      | .nrm => lpK obs1 i fun L1 e1 st => match st with
        | .ready => vc P T sz nx body env1 ((i, .lp L1 e1 .busy) :: obs1) nx1 (rndK i K)
        | _ => False
      | _ => False) : NYield P i args obs nx K :=
  ⟨fun B ρ w xs l n hC hs hl => by
    subst hL
    simp only [Bool.and_eq_true] at hc
    obtain ⟨l', fn, tmps, D, e, hB, hh, hE0⟩ := hC.sat i _ ho
    rw [hl] at e
    have e : l = l' := by injection e with e; injection e with e; injection e
    subst e
    obtain ⟨env, h, hlen, hE⟩ := zip_spec hE0 hs h
    have hy := run_yield (P := P) (args := xs.toArray) hh (by simp [hlen])
    have hin : i < nx := by
      rcases Nat.lt_or_ge i nx with q | q
      · exact q
      · rw [hC.new i q] at hl; cases hl
    have ex : ∀ {ρ1 : Rho} {ds : List Deferred} {w1 : World}, Wy B ⟨w, ρ, nx⟩ ρ1 ds w1 → ∀ j y, ρ j = some y → ρ1 j = some y := fun {ρ1 ds w1} hW j y hy => by
      by_cases hj : j < nx
      · exact hW.e j y hj hy
      · rw [hC.new j (by omega)] at hy; cases hy
    refine ⟨fn, _, assign, body, hy, roundIn_of_wpIn trivial ?_⟩
    have et : ((ps.toArray.zip xs.toArray).foldl (fun t (x : Nat × Value) => match x with | (t', a) => t.setIfInBounds t' a) tmps) = (ps.zip xs).foldl (fun t (p : Nat × Value) => t.setIfInBounds p.1 p.2) tmps := by
      rw [← Array.foldl_toList, Array.toList_zip]
    rw [et]
    have h1 := vc_sound (ro := some l) (n := n) (w0 := ⟨w, ρ, nx⟩) hT hm assign (.inr hc.1) h hE hC ⟨Below.refl _ _, Oth.refl _, fun _ _ _ h => h, [], rfl, List.nodup_nil, by simp⟩
    refine wpIn_mono h1 ?_
    intro e a1 w1 q
    cases e with
    | normal =>
      obtain ⟨ρ1, env1, obs1, nx1, hk, hE1, hC1, hW1⟩ := q
      obtain ⟨L1, e1, st, ho1, hk⟩ := lpK_spec hk
      split at hk
      rotate_left
      · exact hk.elim
      have hl1 := ex hW1 _ _ hl
      obtain ⟨fn1, tmps1, D1, _, hh1, hset⟩ := hC1.lpset ho1 hl1
      refine ⟨_, run_beginRound hh1 rfl, ?_⟩
      have h2 := vc_sound (ro := some l) (n := n) (w0 := ⟨w, ρ, nx⟩) hT hm body (.inr hc.2) hk hE1 (hset .busy) (hW1.trans (put_below hB _) (put_oth hh1 _))
      refine wpIn_mono h2 ?_
      intro e a2 w2 q
      have fin : ∀ (e : Ex) (st : Lst) (b : Bool) (K2 : Env → Obs → Nat → Prop), Nx B ⟨w, ρ, nx⟩ sz K2 a2 w2 → (∀ env2 obs2 nx2, K2 env2 obs2 nx2 → lpK obs2 i fun L env s => match s with
            | .busy => K (.one (.tf b)) ((i, .lp L env st) :: obs2) nx2
            | _ => False) → st ≠ .busy → b = st.pend.isNone → st.state = (if st.pend.isNone then .ready else .done) →
          ∃ v w', (Instr.endRound l st.pend).run P w2 = .ok v w' ∧ ∃ u obs' nx' ρ' x, K u obs' nx' ∧ (∀ i y, ρ i = some y → ρ' i = some y) ∧ Ending.returned v = .returned x ∧ u.is ρ' x ∧ Cls B ρ' obs' nx' w' ∧ Below B w w' ∧ Oth w w' := by
        rintro e st b K2 ⟨ρ2, env2, obs2, nx2, hk2, hE2, hC2, hW2⟩ hK hnb hb hst
        obtain ⟨L2, e2, s2, ho2, hk2⟩ := lpK_spec (hK _ _ _ hk2)
        split at hk2
        rotate_left
        · exact hk2.elim
        obtain ⟨fn2, tmps2, D2, _, hh2, hset2⟩ := hC2.lpset ho2 (ex hW2 _ _ hl)
        refine ⟨_, _, run_endRound st.pend hh2, _, _, _, ρ2, _, hk2, ex hW2, rfl, ?_, ?_, hW2.b.trans (put_below hB _), hW2.o.trans (put_oth hh2 _)⟩
        · subst hb; exact rfl
        · have := hset2 st
          rw [hst] at this
          exact this
      cases e with
      | normal => exact fin .nrm .ready true _ q (fun _ _ _ h => h) (fun q => by cases q) rfl rfl
      | ret => exact fin .ret (.done .ret) false _ q (fun _ _ _ h => h) (fun q => by cases q) rfl rfl
      | exit id => exact fin (.exit id) (.done (.exit id)) false _ q (fun _ _ _ h => h) (fun q => by cases q) rfl rfl
      | goto t => exact q.elim
      | panic c => exact q.elim
      | outgrown => exact q.elim
    | exit id => obtain ⟨_, _, _, _, hk, _⟩ := q; exact hk.elim
    | ret => obtain ⟨_, _, _, _, hk, _⟩ := q; exact hk.elim
    | goto t => exact q
    | panic c => exact q
    | outgrown => exact q⟩
structure NIs (a b : Nat) (K : Prop) : Prop where
  e : a = b
  h : K
theorem run_enter {P : Program} {f : FuncId} (hb : hasBody P f = true) (args : Array Value) (w : World) : (callFunc f args).run P w = .ok (.enter f args) w := by
  unfold hasBody at hb
  cases hf : P.funcs[f]? with
  | none => rw [hf] at hb; cases hb
  | some fn =>
    rw [hf] at hb
    simp only [Bool.and_eq_true, Bool.not_eq_true', Option.isSome_iff_ne_none] at hb
    obtain ⟨h1, h2⟩ := hb
    have h3 : fn.body.isNone = false := by cases hq : fn.body with | none => exact absurd hq h1 | some c => rfl
    have h4 : ¬ fn.name = "runtime.NumGoroutine" := by simpa using h2
    simp [callFunc, hf, h4, h3, Sem.run_bind]
    exact fun q => absurd q h1
def mvA (i j : Nat) : At → At
  | .ref k => match Nat.beq k i with
    | true => .ref j
    | false => .ref k
  | a => a
def mvOb (i j : Nat) : Ob → Ob
  | .box t l => .box t (l.map (mvA i j))
  | o => o
def mvObs (i j : Nat) : Obs → Obs
  | [] => []
  | (k, o) :: r => match Nat.beq k i with
    | true => (k, .gone) :: mvObs i j r
    | false => (k, mvOb i j o) :: mvObs i j r
theorem mvObs_get {i j k : Nat} {o : Ob} : ∀ {obs : Obs}, fnd (mvObs i j obs) k = some o → (k = i ∧ o = .gone) ∨ (k ≠ i ∧ ∃ o', fnd obs k = some o' ∧ o = mvOb i j o')
  | [], h => by cases h
  | (u, x) :: r, h => by
    unfold mvObs at h
    cases hb : Nat.beq u i <;> simp only [hb] at h
    · rcases fnd_cons h with ⟨rfl, rfl⟩ | ⟨hn, h⟩
      · exact .inr ⟨Nat.ne_of_beq_eq_false hb, x, by unfold fnd; rw [Nat.beq_refl], rfl⟩
      · rcases mvObs_get h with q | ⟨q, o', h1, h2⟩
        · exact .inl q
        · refine .inr ⟨q, o', ?_, h2⟩
          unfold fnd
          cases hb2 : Nat.beq u k
          · exact h1
          · exact absurd (Nat.eq_of_beq_eq_true hb2) hn
    · have e := Nat.eq_of_beq_eq_true hb
      subst e
      rcases fnd_cons h with ⟨rfl, rfl⟩ | ⟨hn, h⟩
      · exact .inl ⟨rfl, rfl⟩
      · rcases mvObs_get h with q | ⟨q, o', h1, h2⟩
        · exact .inl q
        · refine .inr ⟨q, o', ?_, h2⟩
          unfold fnd
          cases hb2 : Nat.beq u k
          · exact h1
          · exact absurd (Nat.eq_of_beq_eq_true hb2) hn
theorem Ats.mv {i j : Nat} {ρ : Rho} (hj : ρ j = ρ i) : ∀ {l : List At} {x : List Value}, Ats ρ l x → Ats ρ (l.map (mvA i j)) x
  | [], _, h => h
  | a :: l, _, ⟨u, r, hx, ha, hr⟩ => by
    refine ⟨u, r, hx, ?_, Ats.mv hj hr⟩
    cases a with
    | ref k =>
      show (mvA i j (.ref k)).is ρ u
      simp only [mvA]
      cases hb : Nat.beq k i
      · exact ha
      · have e := Nat.eq_of_beq_eq_true hb
        subst e
        exact ⟨hj.trans ha.1, ha.2⟩
    | _ => exact ha
theorem foot_mv {ρ : Rho} {i j k : Nat} {o : Ob} : foot ρ k (mvOb i j o) = foot ρ k o := by cases o <;> rfl
def mvAsK (i j : Nat) : List At → (List At → Prop) → Prop
  | [], K => K []
  | a :: l, K => match a with
    | .ref k => match Nat.beq k i with
      | true => mvAsK i j l fun r => K (.ref j :: r)
      | false => mvAsK i j l fun r => K (.ref k :: r)
    | a => mvAsK i j l fun r => K (a :: r)
theorem mvAsK_eq {i j : Nat} : ∀ {l : List At} {K : List At → Prop}, mvAsK i j l K → K (l.map (mvA i j))
  | [], _, h => h
  | a :: l, K, h => by
    unfold mvAsK at h
    cases a with
    | ref k =>
      simp only at h
      rw [List.map_cons]
      show K (mvA i j (.ref k) :: _)
      simp only [mvA]
      cases hb : Nat.beq k i <;> simp only [hb] at h ⊢ <;> exact mvAsK_eq (K := fun r => K (_ :: r)) h
    | _ => exact mvAsK_eq (K := fun r => K (_ :: r)) h
def mvK (i j : Nat) : Obs → (Obs → Prop) → Prop
  | [], K => K []
  | (k, o) :: r, K => match Nat.beq k i with
    | true => mvK i j r fun r' => K ((k, .gone) :: r')
    | false => match o with
      | .box t l => mvAsK i j l fun l' => mvK i j r fun r' => K ((k, .box t l') :: r')
      | o => mvK i j r fun r' => K ((k, o) :: r')
theorem mvK_eq {i j : Nat} : ∀ {obs : Obs} {K : Obs → Prop}, mvK i j obs K → K (mvObs i j obs)
  | [], _, h => h
  | (k, o) :: r, K, h => by
    unfold mvK at h
    unfold mvObs
    cases hb : Nat.beq k i <;> simp only [hb] at h ⊢
    · cases o with
      | box t l => exact mvK_eq (K := fun r' => K (_ :: r')) (mvAsK_eq h)
      | _ => exact mvK_eq (K := fun r' => K (_ :: r')) h
    · exact mvK_eq (K := fun r' => K (_ :: r')) h
theorem Cls.mv {B nx : Nat} {ρ : Rho} {obs : Obs} {w : World} (i : Nat) {t s n : Nat} {get : Nat → List Value} (hC : Cls B ρ obs nx w) (ho : fnd obs i = some (.row t s n get)) :
    ∃ ρ', Ext ρ ρ' ∧ Cls B ρ' ((nx, .row t s n get) :: mvObs i nx obs) (nx + 1) w := by
  obtain ⟨v, hv, hr⟩ := hC.sat i _ ho
  have hx : Ext ρ (upd ρ nx v) := ext_upd (hC.new nx (Nat.le_refl _))
  have hne : i ≠ nx := fun e => by rw [e, hC.new nx (Nat.le_refl _)] at hv; cases hv
  have hi : upd ρ nx v nx = upd ρ nx v i := by rw [upd_same, upd_ne v hne, hv]
  have ol : ∀ k o, nx ≠ k → foot (upd ρ nx v) k o = foot ρ k o := fun k o hn => foot_eq (upd_ne v (Ne.symm hn))
  have fnx : foot (upd ρ nx v) nx (.row t s n get) = foot ρ i (.row t s n get) := by rw [foot_at hi, foot_eq (upd_ne v hne)]
  have sm : ∀ o b, sub (mvOb i nx o) b = sub o b := fun o b => by cases o <;> rfl
  have ax : Apx (upd ρ nx v) ((nx, .row t s n get) :: mvObs i nx obs) := fun j k o1 o2 b h1 h2 hb => by
    rcases fnd_cons h1 with ⟨rfl, rfl⟩ | ⟨hn1, h1⟩
    · exact hb.elim
    · rcases mvObs_get h1 with ⟨_, rfl⟩ | ⟨q, o', h3, rfl⟩
      · exact hb.elim
      · rw [sm] at hb
        rcases fnd_cons h2 with ⟨rfl, rfl⟩ | ⟨hn2, h2⟩
        · exact ⟨by rw [fnx]; exact (hC.apx j i o' _ b h3 ho hb).1, fun _ z => z⟩
        · rcases mvObs_get h2 with ⟨_, rfl⟩ | ⟨q2, o2', h4, rfl⟩
          · exact ⟨fun z => (by cases z), fun _ z => z⟩
          · rw [foot_mv, ol _ _ hn2, sm]
            exact hC.apx j k o' o2' b h3 h4 hb
  refine ⟨upd ρ nx v, hx, ⟨hC.le, fun k o hk => ?_, fun j k o1 o2 b h1 h2 hne' hmu hf => ?_, fun k hk => ?_, ax⟩⟩
  · rcases fnd_cons hk with ⟨rfl, rfl⟩ | ⟨hn, hk⟩
    · exact ⟨v, upd_same _ _ _, hr⟩
    · rcases mvObs_get hk with ⟨_, rfl⟩ | ⟨_, o', h1, rfl⟩
      · trivial
      · have hs := (hC.sat k o' h1).ext hx
        cases o' with
        | box t l => obtain ⟨b, cs, e, hB, hl, hh⟩ := hs; exact ⟨b, cs, e, hB, hl.mv hi, hh⟩
        | _ => exact hs
  · rcases fnd_cons h1 with ⟨rfl, rfl⟩ | ⟨hn1, h1⟩
    · rcases fnd_cons h2 with ⟨rfl, rfl⟩ | ⟨hn2, h2⟩
      · exact absurd rfl hne'
      · rw [fnx] at hf
        rcases mvObs_get h2 with ⟨_, rfl⟩ | ⟨q, o', h3, rfl⟩
        · intro e; cases e
        · rw [foot_mv, ol _ _ hn2]
          exact hC.apart i k _ o' b ho h3 (Ne.symm q) rfl hf
    · rcases mvObs_get h1 with ⟨_, rfl⟩ | ⟨q, o', h3, rfl⟩
      · cases hf
      · rw [foot_mv, ol _ _ hn1] at hf
        have hmu' : o'.mut = true := by cases o' <;> exact hmu
        rcases fnd_cons h2 with ⟨rfl, rfl⟩ | ⟨hn2, h2⟩
        · rw [fnx]
          exact hC.apart j i o' _ b h3 ho q hmu' hf
        · rcases mvObs_get h2 with ⟨_, rfl⟩ | ⟨q2, o2', h4, rfl⟩
          · intro e; cases e
          · rw [foot_mv, ol _ _ hn2]
            exact hC.apart j k o' o2' b h3 h4 hne' hmu' hf
  · rw [upd_ne v (by omega)]; exact hC.new k (by omega)
def mvsK : List Nat → Obs → Nat → (Obs → Nat → Prop) → Prop
  | [], obs, n, K => K obs n
  | i :: r, obs, n, K => fndK obs i fun o => match o with
    | .row t s m g => mvK i n obs fun obs' => mvsK r ((n, .row t s m g) :: obs') (n + 1) K
    | _ => False
theorem mvsK_spec {B : Nat} {w : World} : ∀ {l : List Nat} {ρ : Rho} {obs : Obs} {n : Nat} {K : Obs → Nat → Prop}, Cls B ρ obs n w → mvsK l obs n K → ∃ ρ' obs' n', Ext ρ ρ' ∧ Cls B ρ' obs' n' w ∧ K obs' n'
  | [], ρ, obs, n, K, hC, h => ⟨ρ, obs, n, fun _ _ q => q, hC, h⟩
  | i :: r, ρ, obs, n, K, hC, h => by
    obtain ⟨o, ho, h⟩ := fndK_spec h
    cases o with
    | row t s m g =>
      obtain ⟨ρ1, hx1, hC1⟩ := hC.mv i ho
      obtain ⟨ρ2, obs2, n2, hx2, hC2, hK⟩ := mvsK_spec (l := r) hC1 (mvK_eq (K := fun obs' => mvsK r ((n, .row t s m g) :: obs') (n + 1) K) h)
      exact ⟨ρ2, obs2, n2, fun i y q => hx2 _ _ (hx1 _ _ q), hC2, hK⟩
    | _ => exact h.elim
theorem NRange.inl {P : Program} {T : TT} (hT : TTok P T) (hm : P.follows .mixedOrders = true) {g : FuncId} {gfn : Func} {c : Code} (hf : P.funcs[g]? = some gfn) (hb : gfn.body = some c) {gsz : Nat} (hs : gfn.ntmps = gsz) (hB : hasBody P g = true)
    {sz : Nat} {fo : Operand} {ps : Array Tmp} {assign body : Code} {env : Env} {obs : Obs} {nx : Nat} {K : Kon} (sl ml : List Nat)
    (h0 : evK env fo fun v => match v with
      | .one (.clo g' caps) => NIs g' g (keepK env sl fun env0 => capE [.one (.ref nx)] caps fun args => match Nat.ble args.length gsz with
        | true => ∀ L : Lc, L = ⟨sz, ps.toList, assign, body⟩ → mvsK ml ((nx, .lp L env0 .ready) :: obs) (nx + 1) fun obs0 nx0 => vc P T gsz (nx + 1) c (argEnv 0 args) obs0 nx0 (fnK T gfn.results.toList fun _ obs1 nx1 => endK nx env K obs1 nx1)
        | false => False)
      | _ => False) : NRange P sz fo ps assign body env obs nx K := by
  refine ⟨fun B s ρ a w n hE hC hW => ?_⟩
  obtain ⟨v, hv, h⟩ := evK_spec hE h0
  clear h0
  split at h
  rotate_left
  · exact h.elim
  rename_i g' caps
  obtain ⟨rfl, h⟩ := h
  obtain ⟨cs, hcs, hg⟩ := hv
  obtain ⟨env0, hle, h⟩ := keepE_spec h
  have hE0 : EnvR sz ρ env0 { tmps := a.tmps, defers := [] } := ⟨hE.size, fun t v ht => by
    obtain ⟨u, hu, hl⟩ := hle.get t v ht
    obtain ⟨x, e, hx⟩ := hE.env t u hu
    have := hl.is_ hx
    rw [renS_nil] at this
    exact ⟨x, e, this⟩⟩
  refine wpIn_rangeFunc ?_
  intro fn hfn
  have hro : Fence.wide.round = none := rfl
  rw [hro]
  obtain ⟨W1, hW1⟩ : ∃ W1, (w.alloc (.deferred (some []))).alloc (.loop { state := .ready, pending := none, fn := fn, tmps := a.tmps, params := ps, assign := assign, body := body, defers := w.heap.size }) = W1 := ⟨_, rfl⟩
  have hsz1 : W1.heap.size = w.heap.size + 2 := by rw [← hW1]; simp
  have hL1 : W1.heap[w.heap.size + 1]? = some (.loop { state := .ready, pending := none, fn := fn, tmps := a.tmps, params := ps, assign := assign, body := body, defers := w.heap.size }) := by
    rw [← hW1]
    have := World.alloc_heap_new (w.alloc (.deferred (some []))) (.loop { state := .ready, pending := none, fn := fn, tmps := a.tmps, params := ps, assign := assign, body := body, defers := w.heap.size })
    rwa [World.size_alloc] at this
  have hK1 : W1.heap[w.heap.size]? = some (.deferred (some [])) := by
    rw [← hW1]; exact (Below.heap_alloc _ _ _ (by simp)).trans (World.alloc_heap_new w _)
  have hb1 : Below w.heap.size w W1 := by
    rw [← hW1]; exact (((Below.refl _ w).alloc (Nat.le_refl _) _).alloc (by simp) _)
  have hx1 : Ext ρ (upd ρ nx (.func (.yield (w.heap.size + 1)) #[] #[])) := ext_upd (hC.new nx (Nat.le_refl _))
  have hone : Svs (upd ρ nx (.func (.yield (w.heap.size + 1)) #[] #[])) [.one (.ref nx)] [.func (.yield (w.heap.size + 1)) #[] #[]] := ⟨_, [], rfl, ⟨upd_same _ _ _, rfl⟩, rfl⟩
  have hcs1 : CapsAre (upd ρ nx (.func (.yield (w.heap.size + 1)) #[] #[])) caps cs := hcs.ext hx1
  obtain ⟨args, h, hsv⟩ := capE_spec hone hcs1 h
  cases hlen : Nat.ble args.length gsz <;> rw [hlen] at h
  · exact h.elim
  have hC1 := hC.more (v := .func (.yield (w.heap.size + 1)) #[] #[]) (o := .lp ⟨sz, ps.toList, assign, body⟩ env0 .ready) hb1 ⟨w.heap.size + 1, fn, a.tmps, w.heap.size, upd_same _ _ _, by have := hC.le; omega, by simpa [Lst.state, Lst.pend] using hL1, hE0.ext hx1⟩
    (fun b hf => by simp only [foot, upd_same] at hf; injection hf with hf; omega)
  have h1 := h _ rfl
  obtain ⟨ρ2, obs2, n2, hx2, hC2, h2⟩ := mvsK_spec hC1 h1
  have hcall := fn_sound_pin (xs := #[.func (.yield (w.heap.size + 1)) #[] #[]] ++ cs.toArray) hT hm hf hb hs hlen h2 hC2 (by simpa using hsv.ext hx2)
  refine ⟨w.heap.size + 1, [{ target := .collected w.heap.size, args := #[] }], W1, { target := .fn (.func g') cs.toArray, args := #[.func (.yield (w.heap.size + 1)) #[] #[]] }, W1, g', #[.func (.yield (w.heap.size + 1)) #[] #[]] ++ cs.toArray, W1, ?_, ?_, fun _ _ => trivial, ?_, fun q => (by cases q), ?_⟩
  · rw [← hW1]; exact run_enterLoop_outer _ _ _ _ _
  · simp only [resolve, hg]
    simp [go_sem]
  · simp [invoke, go_sem, run_enter hB]
  refine callsIn_wide.2 (hcall.mono ?_)
  rintro e w' ⟨ρ', v, obs', nx', x, hR, rfl, _, hC', hb', hx3, ho'⟩
  have hx' : Ext (upd ρ nx (.func (.yield (w.heap.size + 1)) #[] #[])) ρ' := fun i y hi => by
    by_cases q : i < nx + 1
    · exact hx3 i y q (hx2 _ _ hi)
    · rw [upd_ne _ (by omega), hC.new i (by omega)] at hi; cases hi
  obtain ⟨L2, e2, st, hol, hR⟩ := lpK_spec hR
  have hl2 : ρ' nx = some (.func (.yield (w.heap.size + 1)) #[] #[]) := hx' _ _ (upd_same _ _ _)
  obtain ⟨fn2, tmps2, D2, hBl, hh2, _⟩ := hC'.lpset hol hl2
  have hnb : st.state ≠ .busy := by
    intro q
    cases st with
    | ready => cases q
    | busy => exact hR
    | done c => cases q
  refine ⟨st.pend, _, run_endLoop hh2 hnb, ?_⟩
  have hf2 : foot ρ' nx (.lp L2 e2 st) = some (w.heap.size + 1) := by simp [foot, hl2]
  have hC4 := hC'.kill (w' := w'.putObj (w.heap.size + 1) (.loop { state := .exhausted, pending := st.pend, fn := fn2, tmps := tmps2, params := L2.ps.toArray, assign := L2.assign, body := L2.body, defers := D2 })) hol rfl hf2 World.putObj_size (fun k hk => World.putObj_heap_other hk)
  have hB1 : B ≤ w.heap.size := hC.le
  have hW4 : Wy B s ρ' ({ target := .collected w.heap.size, args := #[] } :: a.defers) (w'.putObj (w.heap.size + 1) (.loop { state := .exhausted, pending := st.pend, fn := fn2, tmps := tmps2, params := L2.ps.toArray, assign := L2.assign, body := L2.body, defers := D2 })) := by
    have o1 : Oth W1 (w'.putObj (w.heap.size + 1) (.loop { state := .exhausted, pending := st.pend, fn := fn2, tmps := tmps2, params := L2.ps.toArray, assign := L2.assign, body := L2.body, defers := D2 })) := ho'.trans (put_oth hh2 _)
    have o2 := (oth_of hb1).trans o1
    refine ⟨((hW.b.trans (hb1.mono hB1)).trans hb').trans (put_below (by omega) _), hW.o.trans o2, fun i y hi hy => hx' _ _ (hx1 _ _ (hW.e i y hi hy)), ?_⟩
    obtain ⟨Ds, hd, hn, hD⟩ := hW.m
    refine ⟨w.heap.size :: Ds, by rw [hd]; rfl, List.nodup_cons.2 ⟨fun q => ?_, hn⟩, fun D q => ?_⟩
    · have := (Array.getElem?_eq_some_iff.1 (hD _ q).2.2).1; omega
    · rcases List.mem_cons.1 q with rfl | q
      · exact ⟨hB1, hW.b.size, o1 _ _ hK1⟩
      · exact ⟨(hD _ q).1, (hD _ q).2.1, o2 _ _ (hD _ q).2.2⟩
  have hE4 : EnvR sz ρ' env { a with defers := [{ target := .collected w.heap.size, args := #[] }] ++ a.defers } := ⟨hE.size, ((hE.ext hx1).ext hx').env⟩
  split at hR
  · exact ⟨ρ', env, _, nx', hR, hE4, hC4, hW4⟩
  · exact wpIn_exit ⟨ρ', env, _, nx', hR, hE4, hC4, hW4⟩
  · exact wpIn_ret ⟨ρ', env, _, nx', hR, hE4, hC4, hW4⟩
  · exact hR.elim
end Go.Proofs.YtpanlcnoopmchaaGreatDoor.V

namespace Go.Proofs.YtpanlcnoopmchaaGreatDoor
open Go Go.RowKit V
theorem _root_.Go.Proofs.YtpanlcnoopmchaaGreatDoor.V.NBit.one {x : Int} {K : Int → Prop} (h0 : 0 ≤ x) (h1 : x ≤ 9223372036854775807) (hK : ∀ z, z = x % 2 → K z) : NBit .and .i64 x 1 K := by
  refine ⟨fun z hz => hK z ?_⟩
  have := hz default default
  rw [intBits_and, Sem.run_pure] at this
  injection this with this _
  injection this with _ this
  rw [← this]
  unfold bits
  simp only [BitVec.toNat_and, BitVec.toNat_ofInt, show IntKind.i64.bits = 64 from rfl]
  have e1 : ((1 : Int) % ((2 ^ 64 : Nat) : Int)).toNat = 1 := by decide
  have e2 : (x % ((2 ^ 64 : Nat) : Int)).toNat = x.toNat := by rw [Int.emod_eq_of_lt h0 (by simp; omega)]
  rw [e1, e2, Nat.and_one_is_mod]
  rw [IntWalk.i64_in _ ⟨by omega, by omega⟩]; omega
theorem _root_.Go.Proofs.YtpanlcnoopmchaaGreatDoor.V.NShr.u64 {x y : Int} {K : Int → Prop} (n : Nat) (hy : y = n) (hn : n ≤ 64) (h1 : 0 ≤ x) (hK : ∀ z, z = x / 2 ^ n → 0 ≤ z → z ≤ x → K z) : NShr .u64 x y K := by
  subst hy
  have p : (0 : Int) ≤ 2 ^ n := Int.le_of_lt (Int.pow_pos (by omega))
  refine ⟨by omega, ?_⟩
  rw [Int.toNat_natCast, show IntKind.u64.bits = 64 from rfl, Nat.min_eq_left hn, Int.fdiv_eq_ediv_of_nonneg _ p]
  exact hK _ rfl (Int.ediv_nonneg h1 p) (Int.ediv_le_self _ h1)
theorem v_cisnan (x : Int) : V.Fn Tryz.prog 110 [] [.one (.val (.int .i64 x))] (.bool false) := by
  refine V.Fn.mk_ V.Tok V.mixed Tryz.func110 rfl Tryz.ntmps110 (by kernel_rfl) rfl rfl ?_
  repeat' ((conv => whnf); first | refine V.NCond.mk ?_ | refine V.NPick.l ?_ | refine V.NIf.not_ ?_ | refine V.NIf.dec_ ?_ | refine V.a4 ?_ | refine V.a5 ?_ | refine V.NIf.mk (fun _ => ?_) (fun _ => ?_) | refine V.a7 ?_ | refine V.a8 ?_ | refine V.a9 ?_ | refine V.NBoth.mk ?_ ?_ | refine V.b1 ?_ | refine V.b2 ?_ | refine V.NTF.dec ?_ | refine V.b3 ?_ | refine V.b4 ?_ | (refine V.NDraw.any (by kernel_rfl) ?_) | fail)
  exact ⟨_, rfl, by simp⟩
theorem v_sisnan (x : Int) : V.Fn Tryz.prog 94 [] [.one (.val (.int .i64 x))] (.bool false) := by
  refine V.Fn.mk_ V.Tok V.mixed Tryz.func94 rfl Tryz.ntmps94 (by kernel_rfl) rfl rfl ?_
  repeat' ((conv => whnf); first | refine V.NCond.mk ?_ | refine V.NPick.l ?_ | refine V.NIf.not_ ?_ | refine V.NIf.dec_ ?_ | refine V.a4 ?_ | refine V.a5 ?_ | refine V.NIf.mk (fun _ => ?_) (fun _ => ?_) | refine V.a7 ?_ | refine V.a8 ?_ | refine V.a9 ?_ | refine V.NBoth.mk ?_ ?_ | refine V.b1 ?_ | refine V.b2 ?_ | refine V.NTF.dec ?_ | refine V.b3 ?_ | refine V.b4 ?_ | (refine V.NDraw.any (by kernel_rfl) ?_) | fail)
  exact ⟨_, rfl, by simp⟩
theorem v_cless (x y : Int) : V.Fn Tryz.prog 93 [] [.one (.val (.int .i64 x)), .one (.val (.int .i64 y))] (.bool (decide (x < y))) := by
  refine V.Fn.mk_ V.Tok V.mixed Tryz.func93 rfl Tryz.ntmps93 (by kernel_rfl) rfl rfl ?_
  repeat' ((conv => whnf); first | refine V.NCond.mk ?_ | refine V.NPick.l ?_ | refine V.NIf.not_ ?_ | refine V.NIf.dec_ ?_ | refine V.a4 ?_ | refine V.a5 ?_ | refine V.NIf.mk (fun _ => ?_) (fun _ => ?_) | refine V.a7 ?_ | refine V.a8 ?_ | refine V.a9 ?_ | refine V.NBoth.mk ?_ ?_ | refine V.b1 ?_ | refine V.b2 ?_ | refine V.NTF.dec ?_ | refine V.b3 ?_ | refine V.b4 ?_ | (first | refine V.Fn.k0 (v_cisnan _) rfl ?_ | refine V.Fn.q0 (v_cisnan _) rfl ?_ | refine V.Fn.a0 (v_cisnan _) rfl ?_) | (refine V.NDraw.any (by kernel_rfl) ?_) | fail)
  all_goals (conv => whnf)
  all_goals (first | exact ⟨_, rfl, iff_of_true (by omega) rfl⟩ | (exfalso; omega) | exact ⟨_, rfl, by simp; omega⟩ | exact ⟨_, rfl, by simp⟩)
theorem v_bsearch (l : List Int) (x : Int) (hn : l.length ≤ 1000) (hs : l.Pairwise (· < ·)) : V.Fn Tryz.prog 66 [.arr 1 l.length (ga e1 l)] [.one (.ref 0), .one (.val (.int .i64 x))] (.tuple #[.int .i64 (Ca.lb l x), .bool (decide (x ∈ l))]) := by
  refine V.Fn.mk_ V.Tok V.mixed Tryz.func66 rfl Tryz.ntmps66 (by kernel_rfl) rfl rfl ?_
  repeat' ((conv => whnf); first | refine V.NCond.mk ?_ | refine V.NPick.l ?_ | refine V.NIf.not_ ?_ | refine V.NIf.dec_ ?_ | refine V.a4 ?_ | refine V.a5 ?_ | refine V.NIf.mk (fun _ => ?_) (fun _ => ?_) | refine V.a7 ?_ | refine V.a8 ?_ | refine V.a9 ?_ | refine V.NBoth.mk ?_ ?_ | refine V.b1 ?_ | refine V.b2 ?_ | refine V.NTF.dec ?_ | refine V.b3 ?_ | refine V.b4 ?_ | (refine V.NDraw.any (by kernel_rfl) ?_) | fail)
  refine V.NLoop.auto (fun (s : Nat × Nat) => [(7, .one (.val (.int .i64 s.1))), (8, .one (.val (.int .i64 s.2)))]) (fun (s : Nat × Nat) => []) [] [] (fun (s : Nat × Nat) => s.2 - s.1) (fun (s : Nat × Nat) => s.1 ≤ s.2 ∧ s.2 ≤ l.length ∧ (∀ k, k < s.1 → l.getD k default < x) ∧ (∀ k, s.2 ≤ k → k < l.length → ¬ l.getD k default < x)) (0, l.length) ⟨Nat.zero_le _, Nat.le_refl _, fun k h => absurd h (Nat.not_lt_zero _), fun k h1 h2 => absurd h2 (by dsimp only at h1; omega)⟩ V.S_ V.S_ (fun _ => ⟨rfl, rfl⟩) ?_; (conv => whnf); refine ⟨⟨rfl, rfl⟩, ?_⟩
  rintro s ⟨h1, h2, h3, h4⟩
  generalize s.1 = i at *
  generalize s.2 = j at *
  repeat' ((conv => whnf); first | refine V.NCond.mk ?_ | refine V.NPick.l ?_ | refine V.NIf.not_ ?_ | refine V.NIf.dec_ ?_ | refine V.a4 ?_ | refine V.a5 ?_ | refine V.NIf.mk (fun _ => ?_) (fun _ => ?_) | refine V.a7 ?_ | refine V.a8 ?_ | refine V.a9 ?_ | refine V.NBoth.mk ?_ ?_ | refine V.b1 ?_ | refine V.b2 ?_ | refine V.NTF.dec ?_ | refine V.b3 ?_ | refine V.b4 ?_ | (refine NShr.u64 1 rfl (by omega) (by omega) ?_; intro z hz hz0 hz1) | (refine NIdx.mk ⟨i, rfl, by omega, ?_⟩) | (refine NIdx.mk ⟨(i + j) / 2, by omega, by omega, ?_⟩) | (first | refine V.Fn.k0 (v_cless _ _) rfl ?_ | refine V.Fn.q0 (v_cless _ _) rfl ?_ | refine V.Fn.a0 (v_cless _ _) rfl ?_) | (first | refine V.Fn.k0 (v_sisnan _) rfl ?_ | refine V.Fn.q0 (v_sisnan _) rfl ?_ | refine V.Fn.a0 (v_sisnan _) rfl ?_) | (refine V.NDraw.any (by kernel_rfl) ?_) | fail)
  all_goals (conv => whnf)
  · refine V.NBack.at_ ((i + j) / 2 + 1, j) [] ⟨by dsimp only; omega, h2, fun k hk => ?_, h4⟩ (by dsimp only; omega) V.S_ rfl V.S_ V.S_ V.S_
    by_cases e : k = (i + j) / 2
    · subst e; assumption
    · have := Ca.srt_lt hs (i := k) (j := (i + j) / 2) (by dsimp only at hk; omega) (by omega); omega
  · refine V.NBack.at_ (i, (i + j) / 2) [] ⟨by dsimp only; omega, by dsimp only; omega, h3, fun k h5 h6 => ?_⟩ (by dsimp only; omega) V.S_ rfl V.S_ V.S_ V.S_
    by_cases e : k = (i + j) / 2
    · subst e; assumption
    · have := Ca.srt_lt hs (i := (i + j) / 2) (j := k) (by dsimp only at h5; omega) h6; omega
  all_goals
    obtain rfl : i = j := by omega
    have e1 := Ca.lb_is h2 h3 h4
    have e2 := Ca.found_is h3 h4 hs
    rw [e1]
    first
      | exact ⟨rfl, congrArg Value.bool (decide_eq_true (e2.2 ⟨by omega, by assumption⟩)).symm, trivial⟩
      | exact ⟨rfl, congrArg Value.bool (decide_eq_false (fun q => by have := e2.1 q; omega)).symm, trivial⟩
theorem v_caopen (c : Cl) (n : Int) (h : Ca.Ok c) (hn : Ca.Day n) : V.Fn Tryz.prog 46 [.arr 1 c.hs.length (ga e1 c.hs)] [.agg [.val (.int .i64 c.we), .ref 0], .one (.val (.int .i64 n))] (.bool (decide (Ca.op c n = 1))) := by
  obtain ⟨h1, h2, h3, h4⟩ := h
  have w01 := Ca.wd_01 c n
  have o1 : n ∈ c.hs → Ca.op c n = 0 := fun q => if_pos q
  have o2 : ¬ n ∈ c.hs → Ca.op c n = Ca.wd c n := fun q => if_neg q
  have ew : Ca.wd c n = 1 - c.we / 2 ^ (n % 7).toNat % 2 := rfl
  unfold Ca.Day at hn
  refine V.Fn.mk_ V.Tok V.mixed Tryz.func46 rfl Tryz.ntmps46 (by kernel_rfl) rfl rfl ?_
  repeat' ((conv => whnf); first | refine V.NCond.mk ?_ | refine V.NPick.l ?_ | refine V.NIf.not_ ?_ | refine V.NIf.dec_ ?_ | refine V.a4 ?_ | refine V.a5 ?_ | refine V.NIf.mk (fun _ => ?_) (fun _ => ?_) | refine V.a7 ?_ | refine V.a8 ?_ | refine V.a9 ?_ | refine V.NBoth.mk ?_ ?_ | refine V.b1 ?_ | refine V.b2 ?_ | refine V.NTF.dec ?_ | refine V.b3 ?_ | refine V.b4 ?_ | ((first | refine V.Fn.k (v_bsearch c.hs n (by omega) h4) [0] rfl ?_ ?_ | refine V.Fn.q (v_bsearch c.hs n (by omega) h4) [0] rfl ?_ ?_ | refine V.Fn.a (v_bsearch c.hs n (by omega) h4) [0] rfl ?_ ?_); · exact V.D_) | (refine NRem.pos (by omega) (by omega) ?_; intro r hr hr0 hr1) | (refine NShr.i64 (n % 7).toNat (by omega) (by omega) (by omega) ?_; intro s hs hs0 hs1) | (refine NBit.one (by omega) (by omega) ?_; intro b hb) | (refine V.NDraw.any (by kernel_rfl) ?_) | fail)
  all_goals (conv => whnf)
  · exact congrArg Value.bool (decide_eq_false (by rw [o1 (by assumption)]; decide)).symm
  · have e := o2 (by assumption)
    exact ⟨_, rfl, by rw [decide_eq_true_eq, e, ew, ← hs]; omega⟩
theorem v_caCheck (c : Cl) (hn : c.hs.length ≤ 9223372036854775807) : V.Fn Tryz.prog 23 [.arr 1 c.hs.length (ga e1 c.hs)] [.agg [.val (.int .i64 c.we), .ref 0]] (.int .i64 (Ca.chk c)) := by
  have c1 := @Ca.chk_1 c
  have c2 := @Ca.chk_2 c
  have c3 := @Ca.chk_3 c
  refine V.Fn.mk_ V.Tok V.mixed Tryz.func23 rfl Tryz.ntmps23 (by kernel_rfl) rfl rfl ?_
  repeat' ((conv => whnf); first | refine V.NCond.mk ?_ | refine V.NPick.l ?_ | refine V.NIf.not_ ?_ | refine V.NIf.dec_ ?_ | refine V.a4 ?_ | refine V.a5 ?_ | refine V.NIf.mk (fun _ => ?_) (fun _ => ?_) | refine V.a7 ?_ | refine V.a8 ?_ | refine V.a9 ?_ | refine V.NBoth.mk ?_ ?_ | refine V.b1 ?_ | refine V.b2 ?_ | refine V.NTF.dec ?_ | refine V.b3 ?_ | refine V.b4 ?_ | (refine V.NDraw.any (by kernel_rfl) ?_) | fail)
  all_goals (conv => whnf)
  · exact V.fin1 (c1 (by omega))
  · exact V.fin1 (c1 (by omega))
  · exact V.fin1 (c2 (by omega) (by omega))
  have e := c3 (by omega) (by omega)
  refine V.NLoop.auto (fun (k : Nat) => [(23, .one (.val (.int .i64 k))), (3, .one (.val (.int .i64 (if k = 0 then -1 else c.hs.getD (k - 1) default))))]) (fun (k : Nat) => []) [] [] (fun (k : Nat) => c.hs.length - k) (fun (k : Nat) => k ≤ c.hs.length ∧ ∀ j, j < k → Ca.eAt c.hs j = 0) 0 ⟨Nat.zero_le _, fun j h => absurd h (Nat.not_lt_zero _)⟩ V.S_ V.S_ (fun _ => ⟨rfl, rfl⟩) ?_; (conv => whnf); refine ⟨⟨rfl, rfl⟩, ?_⟩
  rintro k ⟨hk, hJ⟩
  obtain ⟨a1, a2, a3, a4⟩ := Ca.eAt_cases (hs := c.hs) (k := k) rfl rfl
  have d := Ca.dchk (c.hs.getD k default)
  unfold Ca.Day at d a1 a2 a3 a4
  have ge : ∀ v, v ≠ 0 → k < c.hs.length → Ca.eAt c.hs k = v → Ca.chk c = v := fun v h1 h2 h3 => e.trans ((Ca.fe_get h2 hJ (by omega)).trans h3)
  repeat' ((conv => whnf); first | refine V.NCond.mk ?_ | refine V.NPick.l ?_ | refine V.NIf.not_ ?_ | refine V.NIf.dec_ ?_ | refine V.a4 ?_ | refine V.a5 ?_ | refine V.NIf.mk (fun _ => ?_) (fun _ => ?_) | refine V.a7 ?_ | refine V.a8 ?_ | refine V.a9 ?_ | refine V.NBoth.mk ?_ ?_ | refine V.b1 ?_ | refine V.b2 ?_ | refine V.NTF.dec ?_ | refine V.b3 ?_ | refine V.b4 ?_ | (refine NIdx.mk ⟨k, rfl, by omega, ?_⟩) | (first | refine V.Fn.k0 (v_dcheck _) rfl ?_ | refine V.Fn.q0 (v_dcheck _) rfl ?_ | refine V.Fn.a0 (v_dcheck _) rfl ?_) | (refine V.NDraw.any (by kernel_rfl) ?_) | fail)
  all_goals (conv => whnf)
  · exact V.fin1 (ge 6 (by decide) (by omega) (a2 (by omega) (by assumption)))
  · exact V.fin1 (ge 4 (by decide) (by omega) (a3 (by omega) (by assumption) (by assumption)))
  · refine V.NBack.at_ (k + 1) [] ⟨by omega, fun j hj => ?_⟩ (by omega) ⟨V.S_, congrArg (fun z => V.SV.one (V.At.val (Value.int .i64 z))) (if_neg (by omega)).symm, trivial⟩ rfl V.S_ V.S_ V.S_
    by_cases q : j = k
    · subst q; exact a4 (by omega) (by assumption) (by assumption)
    · exact hJ j (by omega)
  · exact V.fin1 (ge 3 (by decide) (by omega) (a1 (by omega)))
  · obtain rfl : k = c.hs.length := by omega
    exact V.fin1 (e.trans (Ca.fe_end hJ))
theorem v_caChecks (c : Cl) (ds : List Int) (hn : c.hs.length ≤ 9223372036854775807) (hd : ds.length ≤ 1000) : V.Fn Tryz.prog 31 [.arr 1 c.hs.length (ga e1 c.hs), .arr 1 ds.length (ga e1 ds)] [.agg [.val (.int .i64 c.we), .ref 0], .one (.ref 1)] (.int .i64 (Ca.chks c ds)) := by
  have c1 := @Ca.chks_1 c ds
  have c2 := @Ca.chks_2 c ds
  refine V.Fn.mk_ V.Tok V.mixed Tryz.func31 rfl Tryz.ntmps31 (by kernel_rfl) rfl rfl ?_
  repeat' ((conv => whnf); first | refine V.NCond.mk ?_ | refine V.NPick.l ?_ | refine V.NIf.not_ ?_ | refine V.NIf.dec_ ?_ | refine V.a4 ?_ | refine V.a5 ?_ | refine V.NIf.mk (fun _ => ?_) (fun _ => ?_) | refine V.a7 ?_ | refine V.a8 ?_ | refine V.a9 ?_ | refine V.NBoth.mk ?_ ?_ | refine V.b1 ?_ | refine V.b2 ?_ | refine V.NTF.dec ?_ | refine V.b3 ?_ | refine V.b4 ?_ | ((first | refine V.Fn.k (v_caCheck c hn) [0] rfl ?_ ?_ | refine V.Fn.q (v_caCheck c hn) [0] rfl ?_ ?_ | refine V.Fn.a (v_caCheck c hn) [0] rfl ?_ ?_); · exact V.D_) | (refine V.NDraw.any (by kernel_rfl) ?_) | fail)
  all_goals (conv => whnf)
  rotate_left
  · exact V.fin1 (c1 (by assumption))
  have e := c2 (by assumption)
  refine V.NLoop.auto (fun (k : Nat) => [(16, .one (.val (.int .i64 k)))]) (fun (k : Nat) => []) [] [] (fun (k : Nat) => ds.length - k) (fun (k : Nat) => k ≤ ds.length ∧ ∀ d ∈ ds.take k, D.chk d = 0) 0 ⟨Nat.zero_le _, by simp⟩ V.S_ V.S_ (fun _ => ⟨rfl, rfl⟩) ?_; (conv => whnf); refine ⟨⟨rfl, rfl⟩, ?_⟩
  rintro k ⟨hk, hJ⟩
  repeat' ((conv => whnf); first | refine V.NCond.mk ?_ | refine V.NPick.l ?_ | refine V.NIf.not_ ?_ | refine V.NIf.dec_ ?_ | refine V.a4 ?_ | refine V.a5 ?_ | refine V.NIf.mk (fun _ => ?_) (fun _ => ?_) | refine V.a7 ?_ | refine V.a8 ?_ | refine V.a9 ?_ | refine V.NBoth.mk ?_ ?_ | refine V.b1 ?_ | refine V.b2 ?_ | refine V.NTF.dec ?_ | refine V.b3 ?_ | refine V.b4 ?_ | (refine NIdx.mk ⟨k, rfl, by omega, ?_⟩) | (first | refine V.Fn.k0 (v_dcheck _) rfl ?_ | refine V.Fn.q0 (v_dcheck _) rfl ?_ | refine V.Fn.a0 (v_dcheck _) rfl ?_) | (refine V.NDraw.any (by kernel_rfl) ?_) | fail)
  all_goals (conv => whnf)
  · exact V.NBack.at_ (k + 1) [] ⟨by omega, all_snoc (by omega) hJ (by assumption)⟩ (by omega) V.S_ rfl V.S_ V.S_ V.S_
  · exact V.fin1 (e.trans (fb_get (by omega) hJ (by assumption)))
  · exact V.fin1 (e.trans (fb_end (by omega) hJ))
theorem v_caIs (c : Cl) (n : Int) (hn : c.hs.length ≤ 9223372036854775807) : V.Fn Tryz.prog 18 [.arr 1 c.hs.length (ga e1 c.hs)] [.agg [.val (.int .i64 c.we), .ref 0], .one (.val (.int .i64 n))] (.tuple #[.bool (Ca.isV c n), .int .i64 (Ca.e1 c n)]) := by
  have vo := fun h : Ca.e1 c n = 0 => v_caopen c n (Ca.e1_ok h).1 (Ca.e1_ok h).2.1
  have ck := v_caChecks c [n] hn (by simp)
  rw [show Ca.chks c [n] = Ca.e1 c n from rfl] at ck
  refine V.Fn.mk_ V.Tok V.mixed Tryz.func18 rfl Tryz.ntmps18 (by kernel_rfl) rfl rfl ?_
  repeat' ((conv => whnf); first | refine V.NCond.mk ?_ | refine V.NPick.l ?_ | refine V.NIf.not_ ?_ | refine V.NIf.dec_ ?_ | refine V.a4 ?_ | refine V.a5 ?_ | refine V.NIf.mk (fun _ => ?_) (fun _ => ?_) | refine V.a7 ?_ | refine V.a8 ?_ | refine V.a9 ?_ | refine V.NBoth.mk ?_ ?_ | refine V.b1 ?_ | refine V.b2 ?_ | refine V.NTF.dec ?_ | refine V.b3 ?_ | refine V.b4 ?_ | ((first | refine V.Fn.k (ck) [0, 2] rfl ?_ ?_ | refine V.Fn.q (ck) [0, 2] rfl ?_ ?_ | refine V.Fn.a (ck) [0, 2] rfl ?_ ?_); · exact V.D_) | ((first | refine V.Fn.k (vo (by assumption)) [0] rfl ?_ ?_ | refine V.Fn.q (vo (by assumption)) [0] rfl ?_ ?_ | refine V.Fn.a (vo (by assumption)) [0] rfl ?_ ?_); · exact V.D_) | (refine V.NDraw.any (by kernel_rfl) ?_) | fail)
  all_goals (conv => whnf)
  · exact ⟨congrArg Value.bool (decide_eq_decide.2 ⟨fun q => ⟨by assumption, q⟩, fun q => q.2⟩), V.fin1 (by assumption), trivial⟩
  · exact ⟨congrArg Value.bool (decide_eq_false fun q => absurd q.1 (by assumption)).symm, rfl, trivial⟩
theorem v_told (n : Int) : V.Fn Tryz.prog 32 [] [.one (.val (.int .i64 n))] (.tuple #[.int .i64 (Ca.toV n), .int .i64 (Ca.toE n)]) := by
  refine V.Fn.mk_ V.Tok V.mixed Tryz.func32 rfl Tryz.ntmps32 (by kernel_rfl) rfl rfl ?_
  repeat' ((conv => whnf); first | refine V.NCond.mk ?_ | refine V.NPick.l ?_ | refine V.NIf.not_ ?_ | refine V.NIf.dec_ ?_ | refine V.a4 ?_ | refine V.a5 ?_ | refine V.NIf.mk (fun _ => ?_) (fun _ => ?_) | refine V.a7 ?_ | refine V.a8 ?_ | refine V.a9 ?_ | refine V.NBoth.mk ?_ ?_ | refine V.b1 ?_ | refine V.b2 ?_ | refine V.NTF.dec ?_ | refine V.b3 ?_ | refine V.b4 ?_ | (refine V.NDraw.any (by kernel_rfl) ?_) | fail)
  all_goals (conv => whnf)
  · exact V.fin2 ⟨if_pos (by assumption), if_pos (by assumption)⟩
  · exact V.fin2 ⟨if_neg (by assumption), if_neg (by assumption)⟩
set_option maxHeartbeats 4000000 in
theorem v_nthU (c : Cl) (n many : Int) (h : Ca.Ok c) (hn : 0 ≤ n ∧ n ≤ 3652059) (hm : 1 ≤ many ∧ many ≤ 1000) : V.Fn Tryz.prog 47 [.arr 1 c.hs.length (ga e1 c.hs)] [.agg [.val (.int .i64 c.we), .ref 0], .one (.val (.int .i64 n)), .one (.val (.int .i64 1)), .one (.val (.int .i64 many))] (.int .i64 (Ca.stU c (n - 1) many)) := by
  refine V.Fn.mk_ V.Tok V.mixed Tryz.func47 rfl Tryz.ntmps47 (by kernel_rfl) rfl rfl ?_
  repeat' ((conv => whnf); first | refine V.NCond.mk ?_ | refine V.NPick.l ?_ | refine V.NIf.not_ ?_ | refine V.NIf.dec_ ?_ | refine V.a4 ?_ | refine V.a5 ?_ | refine V.NIf.mk (fun _ => ?_) (fun _ => ?_) | refine V.a7 ?_ | refine V.a8 ?_ | refine V.a9 ?_ | refine V.NBoth.mk ?_ ?_ | refine V.b1 ?_ | refine V.b2 ?_ | refine V.NTF.dec ?_ | refine V.b3 ?_ | refine V.b4 ?_ | (refine V.NCall.inl (f := 67) V.Tok V.mixed Tryz.func67 rfl Tryz.ntmps67 (by kernel_rfl) rfl ?_) | (refine V.NRange.inl V.Tok V.mixed Tryz.func95 rfl Tryz.ntmps95 (by kernel_rfl) [7, 8] [] ?_; (conv => whnf); refine V.NIs.mk rfl ?_; (conv => whnf); intro L hL) | (refine V.NDraw.any (by kernel_rfl) ?_) | fail)
  all_goals (conv => whnf)
  refine V.NLoop.auto (fun (i : Int) => []) (fun (i : Int) => [(5, .box 3 [.val (.int .i64 i)]), (2, .box 3 [.val (.int .i64 (many - Ca.cnt c (n - 1) (i - 1)))])]) [] [] (fun (i : Int) => (3652059 - i).toNat) (fun (i : Int) => n ≤ i ∧ i ≤ 3652059 ∧ Ca.cnt c (n - 1) (i - 1) < many) n ⟨Int.le_refl _, hn.2, by rw [Ca.cnt_none (Int.le_refl _)]; omega⟩ V.S_ (by (conv => whnf); exact ⟨rfl, congrArg (fun z => V.Ob.box _ [V.At.val (Value.int .i64 z)]) (by rw [Ca.cnt_none (Int.le_refl _)]; omega), trivial⟩) (fun _ => ⟨rfl, rfl⟩) ?_; (conv => whnf); refine ⟨⟨rfl, rfl⟩, ?_⟩
  rintro i ⟨h1, h2, h3⟩
  have cs := Ca.cnt_last (c := c) (a := n - 1) (b := i) (by omega)
  have c0 := (Ca.cnt_bd c (n - 1) (i - 1)).1
  have vo := fun q => v_caopen c i h q
  repeat' ((conv => whnf); first | refine V.NCond.mk ?_ | refine V.NPick.l ?_ | refine V.NIf.not_ ?_ | refine V.NIf.dec_ ?_ | refine V.a4 ?_ | refine V.a5 ?_ | refine V.NIf.mk (fun _ => ?_) (fun _ => ?_) | refine V.a7 ?_ | refine V.a8 ?_ | refine V.a9 ?_ | refine V.NBoth.mk ?_ ?_ | refine V.b1 ?_ | refine V.b2 ?_ | refine V.NTF.dec ?_ | refine V.b3 ?_ | refine V.b4 ?_ | ((first | refine V.Fn.k (vo ⟨by omega, by omega⟩) [0] rfl ?_ ?_ | refine V.Fn.q (vo ⟨by omega, by omega⟩) [0] rfl ?_ ?_ | refine V.Fn.a (vo ⟨by omega, by omega⟩) [0] rfl ?_ ?_); · exact V.D_) | (refine V.NYield.mk_ V.Tok V.mixed hL rfl rfl ?_) | (refine V.NDraw.any (by kernel_rfl) ?_) | fail)
  all_goals (conv => whnf)
  · exact V.fin1 (Ca.stU_is ⟨by omega, by omega, by assumption, by omega⟩)
  · refine V.NBack.at_ (i + 1) [] ⟨by omega, by omega, by rw [show i + 1 - 1 = i by omega]; omega⟩ (by omega) V.S_ rfl ⟨rfl, congrArg (fun z => V.Ob.box _ [V.At.val (Value.int .i64 z)]) (by rw [show i + 1 - 1 = i by omega]; omega), trivial⟩ V.S_ V.S_
  · have := Ca.op_01 c i
    refine V.NBack.at_ (i + 1) [] ⟨by omega, by omega, by rw [show i + 1 - 1 = i by omega]; omega⟩ (by omega) V.S_ rfl ⟨rfl, congrArg (fun z => V.Ob.box _ [V.At.val (Value.int .i64 z)]) (by rw [show i + 1 - 1 = i by omega]; omega), trivial⟩ V.S_ V.S_
  · have e : i - 1 = 3652058 := by omega
    rw [e] at h3
    exact V.fin1 (Ca.stU_no h3)
set_option maxHeartbeats 4000000 in
theorem v_nthD (c : Cl) (n many : Int) (h : Ca.Ok c) (hn : -1 ≤ n ∧ n ≤ 3652058) (hm : 1 ≤ many ∧ many ≤ 1000) : V.Fn Tryz.prog 47 [.arr 1 c.hs.length (ga e1 c.hs)] [.agg [.val (.int .i64 c.we), .ref 0], .one (.val (.int .i64 n)), .one (.val (.int .i64 (-1))), .one (.val (.int .i64 many))] (.int .i64 (Ca.stD c (n + 1) many)) := by
  refine V.Fn.mk_ V.Tok V.mixed Tryz.func47 rfl Tryz.ntmps47 (by kernel_rfl) rfl rfl ?_
  repeat' ((conv => whnf); first | refine V.NCond.mk ?_ | refine V.NPick.l ?_ | refine V.NIf.not_ ?_ | refine V.NIf.dec_ ?_ | refine V.a4 ?_ | refine V.a5 ?_ | refine V.NIf.mk (fun _ => ?_) (fun _ => ?_) | refine V.a7 ?_ | refine V.a8 ?_ | refine V.a9 ?_ | refine V.NBoth.mk ?_ ?_ | refine V.b1 ?_ | refine V.b2 ?_ | refine V.NTF.dec ?_ | refine V.b3 ?_ | refine V.b4 ?_ | (refine V.NCall.inl (f := 67) V.Tok V.mixed Tryz.func67 rfl Tryz.ntmps67 (by kernel_rfl) rfl ?_) | (refine V.NRange.inl V.Tok V.mixed Tryz.func95 rfl Tryz.ntmps95 (by kernel_rfl) [7, 8] [] ?_; (conv => whnf); refine V.NIs.mk rfl ?_; (conv => whnf); intro L hL) | (refine V.NDraw.any (by kernel_rfl) ?_) | fail)
  all_goals (conv => whnf)
  refine V.NLoop.auto (fun (i : Int) => []) (fun (i : Int) => [(5, .box 3 [.val (.int .i64 i)]), (2, .box 3 [.val (.int .i64 (many - Ca.cnt c i n))])]) [] [] (fun (i : Int) => (i + 1).toNat) (fun (i : Int) => i ≤ n ∧ -1 ≤ i ∧ Ca.cnt c i n < many) n ⟨Int.le_refl _, hn.1, by rw [Ca.cnt_none (Int.le_refl _)]; omega⟩ V.S_ (by (conv => whnf); exact ⟨rfl, congrArg (fun z => V.Ob.box _ [V.At.val (Value.int .i64 z)]) (by rw [Ca.cnt_none (Int.le_refl _)]; omega), trivial⟩) (fun _ => ⟨rfl, rfl⟩) ?_; (conv => whnf); refine ⟨⟨rfl, rfl⟩, ?_⟩
  rintro i ⟨h1, h2, h3⟩
  have cs := Ca.cnt_first (c := c) (a := i - 1) (b := n) (by omega)
  rw [show i - 1 + 1 = i by omega] at cs
  have c0 := (Ca.cnt_bd c i n).1
  have vo := fun q => v_caopen c i h q
  repeat' ((conv => whnf); first | refine V.NCond.mk ?_ | refine V.NPick.l ?_ | refine V.NIf.not_ ?_ | refine V.NIf.dec_ ?_ | refine V.a4 ?_ | refine V.a5 ?_ | refine V.NIf.mk (fun _ => ?_) (fun _ => ?_) | refine V.a7 ?_ | refine V.a8 ?_ | refine V.a9 ?_ | refine V.NBoth.mk ?_ ?_ | refine V.b1 ?_ | refine V.b2 ?_ | refine V.NTF.dec ?_ | refine V.b3 ?_ | refine V.b4 ?_ | ((first | refine V.Fn.k (vo ⟨by omega, by omega⟩) [0] rfl ?_ ?_ | refine V.Fn.q (vo ⟨by omega, by omega⟩) [0] rfl ?_ ?_ | refine V.Fn.a (vo ⟨by omega, by omega⟩) [0] rfl ?_ ?_); · exact V.D_) | (refine V.NYield.mk_ V.Tok V.mixed hL rfl rfl ?_) | (refine V.NDraw.any (by kernel_rfl) ?_) | fail)
  all_goals (conv => whnf)
  · exact V.fin1 (Ca.stD_is ⟨by omega, by omega, by assumption, by rw [show n + 1 - 1 = n by omega]; omega⟩)
  · exact V.NBack.at_ (i - 1) [] ⟨by omega, by omega, by omega⟩ (by omega) V.S_ rfl ⟨rfl, congrArg (fun z => V.Ob.box _ [V.At.val (Value.int .i64 z)]) (by omega), trivial⟩ V.S_ V.S_
  · have := Ca.op_01 c i
    exact V.NBack.at_ (i - 1) [] ⟨by omega, by omega, by omega⟩ (by omega) V.S_ rfl ⟨rfl, congrArg (fun z => V.Ob.box _ [V.At.val (Value.int .i64 z)]) (by omega), trivial⟩ V.S_ V.S_
  · have e : i = -1 := by omega
    rw [e] at h3
    exact V.fin1 (Ca.stD_no (by rw [show n + 1 - 1 = n by omega]; exact h3))
theorem v_caNext (c : Cl) (n : Int) (hn : c.hs.length ≤ 9223372036854775807) : V.Fn Tryz.prog 20 [.arr 1 c.hs.length (ga e1 c.hs)] [.agg [.val (.int .i64 c.we), .ref 0], .one (.val (.int .i64 n))] (.tuple #[.int .i64 (Ca.neV c n), .int .i64 (Ca.neE c n)]) := by
  have h0 : Ca.e1 c n = 0 → Ca.Ok c ∧ (0 ≤ n ∧ n ≤ 3652059) ∧ Ca.neV c n = Ca.toV (Ca.stU c (n - 1) 1) ∧ Ca.neE c n = Ca.toE (Ca.stU c (n - 1) 1) := fun h => by
    obtain ⟨a, b, _⟩ := Ca.e1_ok h
    unfold Ca.Day at b
    exact ⟨a, by omega, if_neg (by omega), if_neg (by omega)⟩
  have h1 : ¬ Ca.e1 c n = 0 → Ca.neV c n = 0 ∧ Ca.neE c n = Ca.e1 c n := fun h => ⟨if_pos h, if_pos h⟩
  have ck := v_caChecks c [n] hn (by simp)
  rw [show Ca.chks c [n] = Ca.e1 c n from rfl] at ck
  refine V.Fn.mk_ V.Tok V.mixed Tryz.func20 rfl Tryz.ntmps20 (by kernel_rfl) rfl rfl ?_
  repeat' ((conv => whnf); first | refine V.NCond.mk ?_ | refine V.NPick.l ?_ | refine V.NIf.not_ ?_ | refine V.NIf.dec_ ?_ | refine V.a4 ?_ | refine V.a5 ?_ | refine V.NIf.mk (fun _ => ?_) (fun _ => ?_) | refine V.a7 ?_ | refine V.a8 ?_ | refine V.a9 ?_ | refine V.NBoth.mk ?_ ?_ | refine V.b1 ?_ | refine V.b2 ?_ | refine V.NTF.dec ?_ | refine V.b3 ?_ | refine V.b4 ?_ | ((first | refine V.Fn.k (ck) [0, 2] rfl ?_ ?_ | refine V.Fn.q (ck) [0, 2] rfl ?_ ?_ | refine V.Fn.a (ck) [0, 2] rfl ?_ ?_); · exact V.D_) | ((first | refine V.Fn.k (v_nthU c n 1 (h0 (by assumption)).1 (h0 (by assumption)).2.1 (by omega)) [0] rfl ?_ ?_ | refine V.Fn.q (v_nthU c n 1 (h0 (by assumption)).1 (h0 (by assumption)).2.1 (by omega)) [0] rfl ?_ ?_ | refine V.Fn.a (v_nthU c n 1 (h0 (by assumption)).1 (h0 (by assumption)).2.1 (by omega)) [0] rfl ?_ ?_); · exact V.D_) | (first | refine V.Fn.k0 (v_told _) rfl ?_ | refine V.Fn.q0 (v_told _) rfl ?_ | refine V.Fn.a0 (v_told _) rfl ?_) | (refine V.NDraw.any (by kernel_rfl) ?_) | fail)
  all_goals (conv => whnf)
  · exact V.fin2 ⟨(h0 (by assumption)).2.2.1, (h0 (by assumption)).2.2.2⟩
  · exact V.fin2 (h1 (by assumption))
theorem v_caRaw (c : Cl) (n many : Int) (h : Ca.Ok c) (hn : Ca.Day n) (hm : -1000 ≤ many ∧ many ≤ 1000) : V.Fn Tryz.prog 33 [.arr 1 c.hs.length (ga e1 c.hs)] [.agg [.val (.int .i64 c.we), .ref 0], .one (.val (.int .i64 n)), .one (.val (.int .i64 many))] (.int .i64 (Ca.stp c n many)) := by
  unfold Ca.Day at hn
  have p := @Ca.stp_p c n many
  have m := @Ca.stp_n c n many
  have u := fun q r => v_nthU c (n + 1) many h q r
  have d := fun q r => v_nthD c (n - 1) (0 - many) h q r
  rw [show n + 1 - 1 = n by omega] at u
  rw [show n - 1 + 1 = n by omega] at d
  refine V.Fn.mk_ V.Tok V.mixed Tryz.func33 rfl Tryz.ntmps33 (by kernel_rfl) rfl rfl ?_
  repeat' ((conv => whnf); first | refine V.NCond.mk ?_ | refine V.NPick.l ?_ | refine V.NIf.not_ ?_ | refine V.NIf.dec_ ?_ | refine V.a4 ?_ | refine V.a5 ?_ | refine V.NIf.mk (fun _ => ?_) (fun _ => ?_) | refine V.a7 ?_ | refine V.a8 ?_ | refine V.a9 ?_ | refine V.NBoth.mk ?_ ?_ | refine V.b1 ?_ | refine V.b2 ?_ | refine V.NTF.dec ?_ | refine V.b3 ?_ | refine V.b4 ?_ | ((first | refine V.Fn.k (u (by omega) (by omega)) [0] rfl ?_ ?_ | refine V.Fn.q (u (by omega) (by omega)) [0] rfl ?_ ?_ | refine V.Fn.a (u (by omega) (by omega)) [0] rfl ?_ ?_); · exact V.D_) | ((first | refine V.Fn.k (d (by omega) (by omega)) [0] rfl ?_ ?_ | refine V.Fn.q (d (by omega) (by omega)) [0] rfl ?_ ?_ | refine V.Fn.a (d (by omega) (by omega)) [0] rfl ?_ ?_); · exact V.D_) | (refine V.NDraw.any (by kernel_rfl) ?_) | fail)
  all_goals (conv => whnf)
  · exact V.fin1 (p (by assumption))
  · exact V.fin1 ((m (by assumption)).trans (by rw [Int.zero_sub]))
  · obtain rfl : many = 0 := by omega
    exact V.fin1 Ca.stp_0
theorem v_caStep (c : Cl) (n many : Int) (hn : c.hs.length ≤ 9223372036854775807) : V.Fn Tryz.prog 8 [.arr 1 c.hs.length (ga e1 c.hs)] [.agg [.val (.int .i64 c.we), .ref 0], .one (.val (.int .i64 n)), .one (.val (.int .i64 many))] (.tuple #[.int .i64 (Ca.sV c n many), .int .i64 (Ca.sE c n many)]) := by
  have h0 : Ca.e1 c n = 0 → ¬ (many < -500 ∨ 500 < many) → Ca.Ok c ∧ Ca.Day n ∧ Ca.sV c n many = Ca.toV (Ca.stp c n many) ∧ Ca.sE c n many = Ca.toE (Ca.stp c n many) := fun h k => by
    obtain ⟨a, b, _⟩ := Ca.e1_ok h
    have e : Ca.sE0 c n many = 0 := by unfold Ca.sE0; rw [if_neg (by omega), if_neg k]
    exact ⟨a, b, if_neg (by omega), if_neg (by omega)⟩
  have h1 : ¬ Ca.e1 c n = 0 → Ca.sV c n many = 0 ∧ Ca.sE c n many = Ca.e1 c n := fun h => by
    have e : Ca.sE0 c n many = Ca.e1 c n := if_pos h
    exact ⟨if_pos (by omega), (if_pos (by omega)).trans e⟩
  have h2 : Ca.e1 c n = 0 → (many < -500 ∨ 500 < many) → Ca.sV c n many = 0 ∧ Ca.sE c n many = 3 := fun h k => by
    have e : Ca.sE0 c n many = 3 := (if_neg (by omega)).trans (if_pos k)
    exact ⟨if_pos (by omega), (if_pos (by omega)).trans e⟩
  have ck := v_caChecks c [n] hn (by simp)
  rw [show Ca.chks c [n] = Ca.e1 c n from rfl] at ck
  refine V.Fn.mk_ V.Tok V.mixed Tryz.func8 rfl Tryz.ntmps8 (by kernel_rfl) rfl rfl ?_
  repeat' ((conv => whnf); first | refine V.NCond.mk ?_ | refine V.NPick.l ?_ | refine V.NIf.not_ ?_ | refine V.NIf.dec_ ?_ | refine V.a4 ?_ | refine V.a5 ?_ | refine V.NIf.mk (fun _ => ?_) (fun _ => ?_) | refine V.a7 ?_ | refine V.a8 ?_ | refine V.a9 ?_ | refine V.NBoth.mk ?_ ?_ | refine V.b1 ?_ | refine V.b2 ?_ | refine V.NTF.dec ?_ | refine V.b3 ?_ | refine V.b4 ?_ | ((first | refine V.Fn.k (ck) [0, 2] rfl ?_ ?_ | refine V.Fn.q (ck) [0, 2] rfl ?_ ?_ | refine V.Fn.a (ck) [0, 2] rfl ?_ ?_); · exact V.D_) | ((first | refine V.Fn.k (v_caRaw c n many (h0 (by assumption) (by omega)).1 (h0 (by assumption) (by omega)).2.1 (by omega)) [0] rfl ?_ ?_ | refine V.Fn.q (v_caRaw c n many (h0 (by assumption) (by omega)).1 (h0 (by assumption) (by omega)).2.1 (by omega)) [0] rfl ?_ ?_ | refine V.Fn.a (v_caRaw c n many (h0 (by assumption) (by omega)).1 (h0 (by assumption) (by omega)).2.1 (by omega)) [0] rfl ?_ ?_); · exact V.D_) | (first | refine V.Fn.k0 (v_told _) rfl ?_ | refine V.Fn.q0 (v_told _) rfl ?_ | refine V.Fn.a0 (v_told _) rfl ?_) | (refine V.NDraw.any (by kernel_rfl) ?_) | fail)
  all_goals (conv => whnf)
  all_goals first
    | exact V.fin2 (h1 (by assumption))
    | exact V.fin2 (h2 (by assumption) (by omega))
    | exact V.fin2 (h0 (by assumption) (by omega)).2.2
    | trace_state
theorem v_caCount (c : Cl) (a b : Int) (hn : c.hs.length ≤ 9223372036854775807) : V.Fn Tryz.prog 21 [.arr 1 c.hs.length (ga e1 c.hs)] [.agg [.val (.int .i64 c.we), .ref 0], .one (.val (.int .i64 a)), .one (.val (.int .i64 b))] (.tuple #[.int .i64 (Ca.coV c a b), .int .i64 (Ca.coE c a b)]) := by
  have ck := v_caChecks c [a, b] hn (by simp)
  have h1 : ¬ Ca.chks c [a, b] = 0 → Ca.coV c a b = 0 ∧ Ca.coE c a b = Ca.chks c [a, b] := fun h => by
    have e : Ca.coE c a b = Ca.chks c [a, b] := if_pos h
    exact ⟨if_neg (by omega), e⟩
  have h2 : Ca.chks c [a, b] = 0 → b < a → Ca.coV c a b = 0 ∧ Ca.coE c a b = 1 := fun h k => by
    have e : Ca.coE c a b = 1 := (if_neg (by omega)).trans (if_pos k)
    exact ⟨if_neg (by omega), e⟩
  have h3 : Ca.chks c [a, b] = 0 → ¬ b < a → Ca.coV c a b = Ca.cnt c a b ∧ Ca.coE c a b = 0 := fun h k => by
    have e : Ca.coE c a b = 0 := (if_neg (by omega)).trans (if_neg k)
    exact ⟨if_pos e, e⟩
  refine V.Fn.mk_ V.Tok V.mixed Tryz.func21 rfl Tryz.ntmps21 (by kernel_rfl) rfl rfl ?_
  repeat' ((conv => whnf); first | refine V.NCond.mk ?_ | refine V.NPick.l ?_ | refine V.NIf.not_ ?_ | refine V.NIf.dec_ ?_ | refine V.a4 ?_ | refine V.a5 ?_ | refine V.NIf.mk (fun _ => ?_) (fun _ => ?_) | refine V.a7 ?_ | refine V.a8 ?_ | refine V.a9 ?_ | refine V.NBoth.mk ?_ ?_ | refine V.b1 ?_ | refine V.b2 ?_ | refine V.NTF.dec ?_ | refine V.b3 ?_ | refine V.b4 ?_ | ((first | refine V.Fn.k (ck) [0, 2] rfl ?_ ?_ | refine V.Fn.q (ck) [0, 2] rfl ?_ ?_ | refine V.Fn.a (ck) [0, 2] rfl ?_ ?_); · exact V.D_) | (refine V.NDraw.any (by kernel_rfl) ?_) | fail)
  all_goals (conv => whnf)
  · exact V.fin2 (h2 (by assumption) (by assumption))
  rotate_left
  · exact V.fin2 (h1 (by assumption))
  obtain ⟨ev, ee⟩ := h3 (by assumption) (by assumption)
  obtain ⟨hc0, ha, hb⟩ := Ca.chks2_ok (c := c) (a := a) (b := b) (by assumption)
  have ok := Ca.chk_ok hc0
  have hab : a ≤ b := by omega
  have ci := Ca.count_is (Ca.ok_nodup ok) hab
  unfold Ca.wk at ci
  have we := ok.1
  have hday := ok.2.2.1
  have n60 := ok.2.1
  unfold Ca.Day at ha hb hday
  clear h1 h2 h3 ck ok
  refine V.NLoop.auto (fun (k : Nat) => [(28, .one (.val (.int .i64 k))), (8, .one (.val (.int .i64 (Ca.sm (Ca.wd c) (-1) k))))]) (fun (k : Nat) => []) [] [] (fun (k : Nat) => 7 - k) (fun (k : Nat) => k ≤ 7) 0 (by omega) V.S_ V.S_ (fun _ => ⟨rfl, rfl⟩) ?_; (conv => whnf); refine ⟨⟨rfl, rfl⟩, ?_⟩
  rintro k hk
  have sb := Ca.smw_bd c (-1) k
  by_cases hlt : k < 7
  · have es : Ca.sm (Ca.wd c) (-1) (k + 1) = Ca.sm (Ca.wd c) (-1) k + (1 - c.we / 2 ^ k % 2) := by
      simp only [Ca.sm, Ca.wd]
      rw [show ((-1 + (k : Int) + 1) % 7).toNat = k by omega]
    repeat' ((conv => whnf); first | refine V.NCond.mk ?_ | refine V.NPick.l ?_ | refine V.NIf.not_ ?_ | refine V.NIf.dec_ ?_ | refine V.a4 ?_ | refine V.a5 ?_ | refine V.NIf.mk (fun _ => ?_) (fun _ => ?_) | refine V.a7 ?_ | refine V.a8 ?_ | refine V.a9 ?_ | refine V.NBoth.mk ?_ ?_ | refine V.b1 ?_ | refine V.b2 ?_ | refine V.NTF.dec ?_ | refine V.b3 ?_ | refine V.b4 ?_ | (refine NShr.i64 k rfl (by omega) (by omega) ?_; intro s hs hs0 hs1) | (refine NBit.one (by omega) (by omega) ?_; intro b hb) | (refine V.NDraw.any (by kernel_rfl) ?_) | fail)
    all_goals (conv => whnf)
    exact V.NBack.at_ (k + 1) [] (by omega) (by omega) ⟨V.S_, congrArg (fun z => V.SV.one (V.At.val (Value.int .i64 z))) (by rw [es, hb, hs]), trivial⟩ rfl V.S_ V.S_ V.S_
  obtain rfl : k = 7 := by omega
  clear hk hlt
  generalize Ca.sm (Ca.wd c) (-1) 7 = W at *
  have mb : 0 ≤ (b - a) / 7 * W ∧ (b - a) / 7 * W ≤ (b - a) / 7 * 7 := ⟨Int.mul_nonneg (by omega) sb.1, Int.mul_le_mul_of_nonneg_left (by omega) (by omega)⟩
  repeat' ((conv => whnf); first | refine V.NCond.mk ?_ | refine V.NPick.l ?_ | refine V.NIf.not_ ?_ | refine V.NIf.dec_ ?_ | refine V.a4 ?_ | refine V.a5 ?_ | refine V.NIf.mk (fun _ => ?_) (fun _ => ?_) | refine V.a7 ?_ | refine V.a8 ?_ | refine V.a9 ?_ | refine V.NBoth.mk ?_ ?_ | refine V.b1 ?_ | refine V.b2 ?_ | refine V.NTF.dec ?_ | refine V.b3 ?_ | refine V.b4 ?_ | (refine NQuo.pos (by omega) (by omega) (by omega) ?_; rintro z rfl hz0 hz1) | (refine V.NDraw.any (by kernel_rfl) ?_) | fail)
  all_goals (conv => whnf)
  generalize (b - a) / 7 * W = Q at *
  refine V.NLoop.auto (fun (j : Nat) => [(10, .one (.val (.int .i64 (a + (b - a) / 7 * 7 + 1 + j)))), (6, .one (.val (.int .i64 (Q + Ca.sm (Ca.wd c) (a + (b - a) / 7 * 7) j))))]) (fun (j : Nat) => []) [] [] (fun (j : Nat) => 7 - j) (fun (j : Nat) => (j : Int) ≤ (b - a) % 7) 0 (by omega) (by (conv => whnf); exact ⟨congrArg (fun z => V.SV.one (V.At.val (Value.int .i64 z))) (by omega), congrArg (fun z => V.SV.one (V.At.val (Value.int .i64 z))) (by simp [Ca.sm]), trivial⟩) V.S_ (fun _ => ⟨rfl, rfl⟩) ?_; (conv => whnf); refine ⟨⟨rfl, rfl⟩, ?_⟩
  rintro j hj
  have sj := Ca.smw_bd c (a + (b - a) / 7 * 7) j
  by_cases hlt : (j : Int) < (b - a) % 7
  · have es : Ca.sm (Ca.wd c) (a + (b - a) / 7 * 7) (j + 1) = Ca.sm (Ca.wd c) (a + (b - a) / 7 * 7) j + (1 - c.we / 2 ^ ((a + (b - a) / 7 * 7 + 1 + j) % 7).toNat % 2) := by
      simp only [Ca.sm, Ca.wd]
      rw [show a + (b - a) / 7 * 7 + (j : Int) + 1 = a + (b - a) / 7 * 7 + 1 + j by omega]
    repeat' ((conv => whnf); first | refine V.NCond.mk ?_ | refine V.NPick.l ?_ | refine V.NIf.not_ ?_ | refine V.NIf.dec_ ?_ | refine V.a4 ?_ | refine V.a5 ?_ | refine V.NIf.mk (fun _ => ?_) (fun _ => ?_) | refine V.a7 ?_ | refine V.a8 ?_ | refine V.a9 ?_ | refine V.NBoth.mk ?_ ?_ | refine V.b1 ?_ | refine V.b2 ?_ | refine V.NTF.dec ?_ | refine V.b3 ?_ | refine V.b4 ?_ | (refine NRem.pos (by omega) (by omega) ?_; rintro r hr hr0 hr1) | (refine NShr.i64 ((a + (b - a) / 7 * 7 + 1 + j) % 7).toNat (by omega) (by omega) (by omega) ?_; intro s hs hs0 hs1) | (refine NBit.one (by omega) (by omega) ?_; intro b hb) | (refine V.NDraw.any (by kernel_rfl) ?_) | fail)
    all_goals (conv => whnf)
    exact V.NBack.at_ (j + 1) [] (by omega) (by omega) ⟨congrArg (fun z => V.SV.one (V.At.val (Value.int .i64 z))) (by omega), congrArg (fun z => V.SV.one (V.At.val (Value.int .i64 z))) (by rw [es, hb, hs]; omega), trivial⟩ rfl V.S_ V.S_ V.S_
  have ej : ((b - a) % 7).toNat = j := by omega
  rw [ej] at ci
  clear ej
  generalize Ca.sm (Ca.wd c) (a + (b - a) / 7 * 7) j = R at *
  repeat' ((conv => whnf); first | refine V.NCond.mk ?_ | refine V.NPick.l ?_ | refine V.NIf.not_ ?_ | refine V.NIf.dec_ ?_ | refine V.a4 ?_ | refine V.a5 ?_ | refine V.NIf.mk (fun _ => ?_) (fun _ => ?_) | refine V.a7 ?_ | refine V.a8 ?_ | refine V.a9 ?_ | refine V.NBoth.mk ?_ ?_ | refine V.b1 ?_ | refine V.b2 ?_ | refine V.NTF.dec ?_ | refine V.b3 ?_ | refine V.b4 ?_ | (refine V.NDraw.any (by kernel_rfl) ?_) | fail)
  all_goals (conv => whnf)
  refine V.NLoop.auto (fun (k : Nat) => [(71, .one (.val (.int .i64 k))), (6, .one (.val (.int .i64 (Q + R - Ca.hc c a b (c.hs.take k)))))]) (fun (k : Nat) => []) [] [] (fun (k : Nat) => c.hs.length - k) (fun (k : Nat) => k ≤ c.hs.length) 0 (Nat.zero_le _) (by (conv => whnf); exact ⟨V.S_, congrArg (fun z => V.SV.one (V.At.val (Value.int .i64 z))) (by simp [Ca.hc]), trivial⟩) V.S_ (fun _ => ⟨rfl, rfl⟩) ?_; (conv => whnf); refine ⟨⟨rfl, rfl⟩, ?_⟩
  rintro k hk
  have hbd := Ca.hc_bd c a b (c.hs.take k)
  rw [List.length_take] at hbd
  by_cases hlt : k < c.hs.length
  · have hd := hday _ (getD_mem hlt)
    have es : Ca.hc c a b (c.hs.take (k + 1)) = Ca.hc c a b (c.hs.take k) + (if a < c.hs.getD k default ∧ c.hs.getD k default ≤ b ∧ Ca.wd c (c.hs.getD k default) = 1 then 1 else 0) := by
      rw [List.take_succ_eq_append_getElem hlt, Ca.hc_snoc, ← getD_at hlt]
    have ew : Ca.wd c (c.hs.getD k default) = 1 - c.we / 2 ^ (c.hs.getD k default % 7).toNat % 2 := rfl
    repeat' ((conv => whnf); first | refine V.NCond.mk ?_ | refine V.NPick.l ?_ | refine V.NIf.not_ ?_ | refine V.NIf.dec_ ?_ | refine V.a4 ?_ | refine V.a5 ?_ | refine V.NIf.mk (fun _ => ?_) (fun _ => ?_) | refine V.a7 ?_ | refine V.a8 ?_ | refine V.a9 ?_ | refine V.NBoth.mk ?_ ?_ | refine V.b1 ?_ | refine V.b2 ?_ | refine V.NTF.dec ?_ | refine V.b3 ?_ | refine V.b4 ?_ | (refine NIdx.mk ⟨k, rfl, by omega, ?_⟩) | (refine NRem.pos (by omega) (by omega) ?_; rintro r hr hr0 hr1) | (refine NShr.i64 (c.hs.getD k default % 7).toNat (by omega) (by omega) (by omega) ?_; intro s hs hs0 hs1) | (refine NBit.one (by omega) (by omega) ?_; intro bt hbt) | (refine V.NDraw.any (by kernel_rfl) ?_) | fail)
    all_goals (conv => whnf)
    all_goals refine V.NBack.at_ (k + 1) [] (by omega) (by omega) ⟨V.S_, congrArg (fun z => V.SV.one (V.At.val (Value.int .i64 z))) ?_, trivial⟩ rfl V.S_ V.S_ V.S_
    all_goals rw [es]
    all_goals first
      | (rw [if_neg (by omega)]; omega)
      | (rw [if_pos (by omega)]; omega)
      | (rw [if_pos ⟨by omega, by omega, by rw [ew, ← hs]; omega⟩]; omega)
      | (rw [if_neg (fun q => by have := q.2.2; rw [ew, ← hs] at this; omega)]; omega)
      | trace_state
  obtain rfl : k = c.hs.length := by omega
  rw [List.take_length] at *
  repeat' ((conv => whnf); first | refine V.NCond.mk ?_ | refine V.NPick.l ?_ | refine V.NIf.not_ ?_ | refine V.NIf.dec_ ?_ | refine V.a4 ?_ | refine V.a5 ?_ | refine V.NIf.mk (fun _ => ?_) (fun _ => ?_) | refine V.a7 ?_ | refine V.a8 ?_ | refine V.a9 ?_ | refine V.NBoth.mk ?_ ?_ | refine V.b1 ?_ | refine V.b2 ?_ | refine V.NTF.dec ?_ | refine V.b3 ?_ | refine V.b4 ?_ | (refine V.NDraw.any (by kernel_rfl) ?_) | fail)
  all_goals (conv => whnf)
  exact V.fin2 ⟨ev.trans ci, ee⟩
end Go.Proofs.YtpanlcnoopmchaaGreatDoor

namespace Go.Proofs.YtpanlcnoopmchaaGreatDoor
open Go.RowKit
theorem check_any (n : Int) (w : World) : Calls Tryz.prog 43 #[.int .i64 n] w fun e w' => e = .returned (.int .i64 (D.chk n)) ∧ w = w' := by
  go_enter Tryz.func43, Tryz.ntmps43
  go_wp2
  all_goals go_ret
  all_goals first | (rw [D.chk_no (by omega)]; exact ⟨rfl, rfl⟩) | (rw [D.chk_yes (by omega) (by omega)]; exact ⟨rfl, rfl⟩)
end Go.Proofs.YtpanlcnoopmchaaGreatDoor

namespace Go.Proofs.YtpanlcnoopmchaaGreatDoor
open Go.RowKit
def longAt (m : Int) : Int := if m = 2 then 28 else if m = 4 ∨ m = 6 ∨ m = 9 ∨ m = 11 then 30 else 31
def LongIs (w : World) : Prop := ∀ m : Int, 1 ≤ m → m ≤ 12 → w.cell? ⟨0, m.toNat - 1, none⟩ = some (.int .i64 (longAt m))
theorem leap_any (y : Int) (h0 : 1 ≤ y) (h1 : y ≤ 20000) (w : World) : Calls Tryz.prog 111 #[.int .i64 y] w fun e w' => e = .returned (.bool (D.lp y)) ∧ w = w' := by
  go_enter Tryz.func111, Tryz.ntmps111
  go_wp2
  all_goals (go_ret; exact ⟨by simp [D.lp, bne, *], rfl⟩)
theorem days_any (y m : Int) (h0 : 1 ≤ y) (h1 : y ≤ 20000) (hm0 : 1 ≤ m) (hm1 : m ≤ 12) (w : World) (hl : LongIs w) : Calls Tryz.prog 97 #[.int .i64 y, .int .i64 m] w fun e w' => e = .returned (.int .i64 (D.ml y m)) ∧ w = w' := by
  have hc := hl m hm0 hm1
  by_cases hm : m = 2
  · subst hm
    by_cases hy : D.lp y = true
    · have e := D.L_of hy
      go_enter Tryz.func97, Tryz.ntmps97
      go_wp2_with (go_at_call 111; refine (leap_any _ (by omega) (by omega) _).mono ?_; rintro e w' ⟨rfl, rfl⟩)
      go_ret
      exact ⟨by simp [D.ml, e], rfl⟩
    · have hy' : D.lp y = false := by simpa using hy
      have e := D.L_not hy'
      have hc : w.cell? ⟨0, 1, none⟩ = some (.int .i64 28) := hl 2 (by omega) (by omega)
      go_enter Tryz.func97, Tryz.ntmps97
      go_wp2_with (go_at_call 111; refine (leap_any _ (by omega) (by omega) _).mono ?_; rintro e w' ⟨rfl, rfl⟩)
      go_ret
      exact ⟨by simp [D.ml, e], rfl⟩
  · have hb : (m == 2) = false := by simpa using hm
    go_enter Tryz.func97, Tryz.ntmps97
    go_wp2
    go_ret
    exact ⟨by simp [D.ml, hm, longAt], rfl⟩
theorem raw_any (y m d : Int) (h0 : 1 ≤ y) (h1 : y ≤ 20000) (hm0 : 1 ≤ m) (hm1 : m ≤ 12) (hd0 : 0 ≤ d) (hd1 : d ≤ 400) (w : World) (hl : LongIs w) : Calls Tryz.prog 96 #[.int .i64 y, .int .i64 m, .int .i64 d] w fun e w' => e = .returned (.int .i64 (D.raw y m d)) ∧ w = w' := by
  have hb := D.dby_bd y h0 h1
  go_enter Tryz.func96, Tryz.ntmps96
  go_wp2
  go_loop [7, 8] (fun n i => ∃ k : Int, 1 ≤ k ∧ k ≤ m ∧ i = .int .i64 k ∧ n = .int .i64 (D.dby y + D.cum y k)) (fun _ i => (m - intOf i).toNat)
  case atStart => exact ⟨1, by omega, by omega, rfl, by rw [D.cum_one]; simp [D.dby]⟩
  case round =>
    obtain ⟨k, hk0, hk1, rfl, rfl⟩ := hrel
    have hcb := D.cum_bd y k hk0 (by omega)
    have hml := D.ml_bd y k
    have hL := D.L_01 y
    by_cases hlt : k < m
    · have hs := D.cum_succ y k hk0 (by omega)
      go_wp2_with (go_at_call 97; refine (days_any y k h0 h1 (by omega) (by omega) _ hl).mono ?_; rintro e w' ⟨rfl, rfl⟩)
      go_round
      case rel => exact ⟨k + 1, by omega, by omega, rfl, by rw [hs]; go_num⟩
      case measure => simp [intOf]; omega
    · obtain rfl : k = m := by omega
      go_wp2
      go_ret
      exact ⟨by simp [D.raw], rfl⟩
theorem split_any (n : Int) (h0 : 0 ≤ n) (h1 : n ≤ 3652058) (w : World) (hl : LongIs w) : Calls Tryz.prog 68 #[.int .i64 n] w fun e w' => e = .returned (.tuple #[.int .i64 (D.yO n), .int .i64 (D.mO n), .int .i64 (D.dO n)]) ∧ w = w' := by
  have g := D.guess h0 h1
  obtain ⟨b1, b2, b3, b4, b5, b6, b7, b8, b9⟩ := D.of_bds h0 h1
  generalize D.yO n = Y, D.mO n = M, D.dO n = E' at *
  have B := hid b7
  have b71 : n ≤ D.dby Y + D.cum Y M + E' - 1 := by omega
  clear b7
  go_enter Tryz.func68, Tryz.ntmps68
  go_wp2
  go_loop [2] (fun t => ∃ y : Int, 1 ≤ y ∧ y ≤ Y ∧ t = .int .i64 y) (fun t => (Y - intOf t).toNat)
  case atStart => exact ⟨_, by omega, by omega, rfl⟩
  case round =>
    obtain ⟨y, hy0, hy1, rfl⟩ := hrel
    have hr : D.raw (y + 1) 1 1 = D.dby (y + 1) := by unfold D.raw; rw [D.cum_one]; omega
    have hb := D.dby_bd (y + 1) (by omega) (by omega)
    by_cases hlt : y < Y
    · have hle : D.raw (y + 1) 1 1 ≤ n := by
        rw [hr]
        by_cases e : y + 1 = Y
        · rw [e]; omega
        · have := D.dby_mono (y := y + 1) (z := Y) (by omega); have := D.L_01 (y + 1); omega
      clear hr
      go_wp2_with (go_at_call 96; refine (raw_any _ _ _ (by omega) (by omega) (by omega) (by omega) (by omega) (by omega) _ hl).mono ?_; rintro e w' ⟨rfl, rfl⟩)
      go_round
      case rel => exact ⟨y + 1, by omega, by omega, rfl⟩
      case measure => simp [intOf]; omega
    · obtain rfl : y = Y := by omega
      have hle : ¬ D.raw (y + 1) 1 1 ≤ n := by rw [hr]; omega
      have hr1 : D.raw y 1 1 = D.dby y := by unfold D.raw; rw [D.cum_one]; omega
      have hb1 := D.dby_bd y (by omega) (by omega)
      have hr2 : D.raw y 1 1 ≤ D.dby y := by omega
      have hr3 : D.dby y ≤ D.raw y 1 1 := by omega
      clear hr hr1 hb
      go_wp2_with (go_at_call 96; refine (raw_any _ _ _ (by omega) (by omega) (by omega) (by omega) (by omega) (by omega) _ hl).mono ?_; rintro e w' ⟨rfl, rfl⟩)
      go_loop [3, 4] (fun m d => ∃ k : Int, 1 ≤ k ∧ k ≤ M ∧ m = .int .i64 k ∧ d = .int .i64 (n - D.dby y - D.cum y k + 1)) (fun m _ => (M - intOf m).toNat)
      case atStart => exact ⟨1, by omega, by omega, rfl, by rw [D.cum_one]; have e1 : D.raw y 1 1 = D.dby y := by omega
                                                            rw [e1]; go_num⟩
      case round =>
        obtain ⟨k, hk0, hk1, rfl, rfl⟩ := hrel
        have hc := D.cum_bd y k hk0 (by omega)
        have hm := D.ml_bd y k
        have hL := D.L_01 y
        by_cases hlt : k < M
        · have hlt' : ¬ n - D.dby y - D.cum y k + 1 ≤ D.ml y k := by have := D.cum_mono y hk0 hlt b4; have := B.out; omega
          have hs := D.cum_succ y k hk0 (by omega)
          have HS := hid hs
          clear hs
          go_wp2_with (go_at_call 97; refine (days_any _ _ (by omega) (by omega) (by omega) (by omega) _ hl).mono ?_; rintro e w' ⟨rfl, rfl⟩)
          go_round
          case rel => exact ⟨k + 1, by omega, by omega, rfl, by rw [HS.out]; go_num⟩
          case measure => simp [intOf]; omega
        · obtain rfl : k = M := by omega
          have hge : n - D.dby y - D.cum y k + 1 ≤ D.ml y k := by have := B.out; omega
          go_wp2_with (go_at_call 97; refine (days_any _ _ (by omega) (by omega) (by omega) (by omega) _ hl).mono ?_; rintro e w' ⟨rfl, rfl⟩)
          go_ret3
          have e1 : n - D.dby y - D.cum y k + 1 = E' := by have := B.out; omega
          exact ⟨by rw [e1]; rfl, rfl⟩
theorem of_any (n : Int) (w : World) (hl : LongIs w) : Calls Tryz.prog 48 #[.int .i64 n] w fun e w' => e = .returned (.tuple #[.int .i64 (D.yO' n), .int .i64 (D.mO' n), .int .i64 (D.dO' n), .int .i64 (D.chk n)]) ∧ w = w' := by
  by_cases h : 0 ≤ n ∧ n ≤ 3652058
  · have hc := D.chk_yes h.1 h.2
    obtain ⟨e1, e2, e3⟩ := D.o_yes h
    have E1 := hid e1; have E2 := hid e2; have E3 := hid e3; clear e1 e2 e3
    go_enter Tryz.func48, Tryz.ntmps48
    go_wp2_with (first | (go_at_call 43; refine (check_any _ _).mono ?_; rintro e w' ⟨rfl, rfl⟩) | (go_at_call 68; refine (split_any _ (by omega) (by omega) _ hl).mono ?_; rintro e w' ⟨rfl, rfl⟩))
    refine bodyPost_ret (results_tmp4 rfl _ _ _) rfl ⟨?_, rfl⟩
    rw [E1.out, E2.out, E3.out, hc]; rfl
  · have hc := D.chk_no h
    obtain ⟨e1, e2, e3⟩ := D.o_no h
    go_enter Tryz.func48, Tryz.ntmps48
    go_wp2_with (first | (go_at_call 43; refine (check_any _ _).mono ?_; rintro e w' ⟨rfl, rfl⟩))
    refine bodyPost_ret (results_tmp4 rfl _ _ _) rfl ⟨?_, rfl⟩
    rw [e1, e2, e3, hc]; rfl
end Go.Proofs.YtpanlcnoopmchaaGreatDoor

namespace Go.Proofs.YtpanlcnoopmchaaGreatDoor
open Go.RowKit
end Go.Proofs.YtpanlcnoopmchaaGreatDoor

namespace Go.Proofs.YtpanlcnoopmchaaGreatDoor
open Go.RowKit
end Go.Proofs.YtpanlcnoopmchaaGreatDoor

namespace Go.Proofs.YtpanlcnoopmchaaGreatDoor
open Go Go.RowKit V
namespace V
theorem Svs.vals_ {ρ : Rho} : ∀ {vs xs : List Value}, Svs ρ (vs.map fun v => SV.one (.val v)) xs → xs = vs
  | [], _, h => h
  | v :: l, _, ⟨x, r, e, hv, hr⟩ => by
    have : x = v := hv
    subst this
    rw [e, Svs.vals_ hr]
theorem Fn.old {P : Program} {f : FuncId} {os : List Ob} {x : Value} (vs : List Value) (hb : hasBody P f = true) (h : ∀ w, (∀ (i : Nat) o, os[i]? = some o → ∃ ρ v, Ro ρ w v o) → Calls P f vs.toArray w fun e w' => e = .returned x ∧ w = w') : Fn P f os (vs.map fun v => SV.one (.val v)) x :=
  ⟨hb, fun w ρ xs ho hs => by
    rw [Svs.vals_ hs]
    refine (h w fun i o e => by obtain ⟨v, _, q⟩ := ho i o e; exact ⟨ρ, v, q⟩).mono ?_
    rintro e w' ⟨rfl, rfl⟩
    exact ⟨rfl, Below.refl _ _⟩⟩
end V
def dtL : List Value := [31, 28, 31, 30, 31, 30, 31, 31, 30, 31, 30, 31].map (Value.int .i64)
def dt : V.Ob := .tab 0 dtL
theorem long_of_tab {w : World} (h : TabIs w 0 dtL) : LongIs w := by
  intro m h1 h2
  obtain ⟨_, h⟩ := h
  have hm : m = 1 ∨ m = 2 ∨ m = 3 ∨ m = 4 ∨ m = 5 ∨ m = 6 ∨ m = 7 ∨ m = 8 ∨ m = 9 ∨ m = 10 ∨ m = 11 ∨ m = 12 := by omega
  rcases hm with rfl | rfl | rfl | rfl | rfl | rfl | rfl | rfl | rfl | rfl | rfl | rfl <;> exact h _ _ rfl
theorem tab_of_long {w : World} (h : LongIs w) : TabIs w 0 dtL := by
  have h0 := h 1 (by omega) (by omega)
  refine ⟨?_, fun j u hu => ?_⟩
  · rcases Nat.lt_or_ge 0 w.heap.size with hlt | hge
    · exact hlt
    · unfold World.cell? at h0; rw [Array.getElem?_eq_none hge] at h0; cases h0
  · have hj : j < 12 := (List.getElem?_eq_some_iff.1 hu).1
    have e := h (j + 1) (by omega) (by omega)
    rw [show ((j : Int) + 1).toNat - 1 = j by omega] at e
    rw [e, ← hu]
    have hm : j = 0 ∨ j = 1 ∨ j = 2 ∨ j = 3 ∨ j = 4 ∨ j = 5 ∨ j = 6 ∨ j = 7 ∨ j = 8 ∨ j = 9 ∨ j = 10 ∨ j = 11 := by omega
    rcases hm with rfl | rfl | rfl | rfl | rfl | rfl | rfl | rfl | rfl | rfl | rfl | rfl <;> rfl
theorem long_ro {w : World} (h : ∀ (i : Nat) o, [dt][i]? = some o → ∃ ρ v, V.Ro ρ w v o) : LongIs w := by
  obtain ⟨ρ, v, _, q⟩ := h 0 _ rfl
  exact long_of_tab q
theorem v_dOf (n : Int) : V.Fn Tryz.prog 48 [dt] [.one (.val (.int .i64 n))] (.tuple #[.int .i64 (D.yO' n), .int .i64 (D.mO' n), .int .i64 (D.dO' n), .int .i64 (D.chk n)]) :=
  V.Fn.old [.int .i64 n] (by kernel_rfl) fun w h => of_any n w (long_ro h)
end Go.Proofs.YtpanlcnoopmchaaGreatDoor

namespace Go.Proofs.YtpanlcnoopmchaaGreatDoor
open Go Go.RowKit V
theorem v_caFit (c : Cl) (n : Int) (hc : c.hs.length ≤ 9223372036854775807) : V.Fn Tryz.prog 22 [.arr 1 c.hs.length (ga e1 c.hs), dt] [.agg [.val (.int .i64 c.we), .ref 0], .one (.val (.int .i64 n))] (.tuple #[.int .i64 (Ca.fiV c n), .int .i64 (Ca.fiE c n)]) := by
  have ck := v_caChecks c [n] hc (by simp)
  rw [show Ca.chks c [n] = Ca.e1 c n from rfl] at ck
  have h1 : ¬ Ca.e1 c n = 0 → Ca.fiV c n = 0 ∧ Ca.fiE c n = Ca.e1 c n := fun h => ⟨if_pos h, if_pos h⟩
  by_cases h0 : Ca.e1 c n = 0
  · obtain ⟨h, hn, _⟩ := Ca.e1_ok h0
    have v0 : Ca.fiV c n = Ca.toV (Ca.fk c n) := if_neg (by omega)
    have e0 : Ca.fiE c n = Ca.toE (Ca.fk c n) := if_neg (by omega)
    have f1 := @Ca.fk_1 c n
    have f2 := @Ca.fk_2 c n
    have ot := v_dOf n
    rw [(D.o_yes hn).1, (D.o_yes hn).2.1] at ot
    have hd := hn
    unfold Ca.Day at hd
    have ou := v_dOf (Ca.stU c (n - 1) 1)
    have nu := v_nthU c n 1 h (by omega) (by omega)
    have nd := v_nthD c n 1 h (by omega) (by omega)
    have ks : 0 ≤ Ca.stU c (n - 1) 1 → D.yO' (Ca.stU c (n - 1) 1) = D.yO (Ca.stU c (n - 1) 1) ∧ D.mO' (Ca.stU c (n - 1) 1) = D.mO (Ca.stU c (n - 1) 1) := fun q => by
      have y := Ca.stU_ok q
      have z := D.o_yes (n := Ca.stU c (n - 1) 1) ⟨q, y.2.1⟩
      exact ⟨z.1, z.2.1⟩
    have mo : Ca.Mo (Ca.stU c (n - 1) 1) n ↔ (0 ≤ Ca.stU c (n - 1) 1 ∧ D.yO (Ca.stU c (n - 1) 1) = D.yO n ∧ D.mO (Ca.stU c (n - 1) 1) = D.mO n) := Iff.rfl
    have r1 : Ca.Mo (Ca.stU c (n - 1) 1) n → Ca.fiV c n = Ca.stU c (n - 1) 1 ∧ Ca.fiE c n = 0 := fun q => by
      rw [v0, e0, f1 q]
      exact Ca.toV_pos q.1
    have r2 : ¬ Ca.Mo (Ca.stU c (n - 1) 1) n → Ca.fiV c n = Ca.toV (Ca.stD c (n + 1) 1) ∧ Ca.fiE c n = Ca.toE (Ca.stD c (n + 1) 1) := fun q => by
      rw [v0, e0, f2 q]
      exact ⟨rfl, rfl⟩
    refine V.Fn.mk_ V.Tok V.mixed Tryz.func22 rfl Tryz.ntmps22 (by kernel_rfl) rfl rfl ?_
    repeat' ((conv => whnf); first | refine V.NCond.mk ?_ | refine V.NPick.l ?_ | refine V.NIf.not_ ?_ | refine V.NIf.dec_ ?_ | refine V.a4 ?_ | refine V.a5 ?_ | refine V.NIf.mk (fun _ => ?_) (fun _ => ?_) | refine V.a7 ?_ | refine V.a8 ?_ | refine V.a9 ?_ | refine V.NBoth.mk ?_ ?_ | refine V.b1 ?_ | refine V.b2 ?_ | refine V.NTF.dec ?_ | refine V.b3 ?_ | refine V.b4 ?_ | ((first | refine V.Fn.k (ck) [0, 3] rfl ?_ ?_ | refine V.Fn.q (ck) [0, 3] rfl ?_ ?_ | refine V.Fn.a (ck) [0, 3] rfl ?_ ?_); · exact V.D_) | ((first | refine V.Fn.k (ot) [1] rfl ?_ ?_ | refine V.Fn.q (ot) [1] rfl ?_ ?_ | refine V.Fn.a (ot) [1] rfl ?_ ?_); · exact V.D_) | ((first | refine V.Fn.k (ou) [1] rfl ?_ ?_ | refine V.Fn.q (ou) [1] rfl ?_ ?_ | refine V.Fn.a (ou) [1] rfl ?_ ?_); · exact V.D_) | ((first | refine V.Fn.k (nu) [0] rfl ?_ ?_ | refine V.Fn.q (nu) [0] rfl ?_ ?_ | refine V.Fn.a (nu) [0] rfl ?_ ?_); · exact V.D_) | ((first | refine V.Fn.k (nd) [0] rfl ?_ ?_ | refine V.Fn.q (nd) [0] rfl ?_ ?_ | refine V.Fn.a (nd) [0] rfl ?_ ?_); · exact V.D_) | (first | refine V.Fn.k0 (v_told _) rfl ?_ | refine V.Fn.q0 (v_told _) rfl ?_ | refine V.Fn.a0 (v_told _) rfl ?_) | (refine V.NDraw.any (by kernel_rfl) ?_) | fail)
    all_goals (conv => whnf)
    all_goals first
      | exact V.fin2 (r1 (mo.2 (by have := ks (by assumption); omega)))
      | exact V.fin2 (r2 (fun q => by have := mo.1 q; have := ks this.1; omega))
      | (exfalso; omega)
  · refine V.Fn.mk_ V.Tok V.mixed Tryz.func22 rfl Tryz.ntmps22 (by kernel_rfl) rfl rfl ?_
    repeat' ((conv => whnf); first | refine V.NCond.mk ?_ | refine V.NPick.l ?_ | refine V.NIf.not_ ?_ | refine V.NIf.dec_ ?_ | refine V.a4 ?_ | refine V.a5 ?_ | refine V.NIf.mk (fun _ => ?_) (fun _ => ?_) | refine V.a7 ?_ | refine V.a8 ?_ | refine V.a9 ?_ | refine V.NBoth.mk ?_ ?_ | refine V.b1 ?_ | refine V.b2 ?_ | refine V.NTF.dec ?_ | refine V.b3 ?_ | refine V.b4 ?_ | ((first | refine V.Fn.k (ck) [0, 3] rfl ?_ ?_ | refine V.Fn.q (ck) [0, 3] rfl ?_ ?_ | refine V.Fn.a (ck) [0, 3] rfl ?_ ?_); · exact V.D_) | (refine V.NDraw.any (by kernel_rfl) ?_) | fail)
    all_goals (conv => whnf)
    all_goals first
      | exact V.fin2 (h1 (by assumption))
end Go.Proofs.YtpanlcnoopmchaaGreatDoor

namespace Go.Proofs.YtpanlcnoopmchaaGreatDoor
open Go Go.RowKit V
theorem v_agwithin (n a b : Int) : V.Fn Tryz.prog 92 [] [.one (.val (.int .i64 n)), .one (.val (.int .i64 a)), .one (.val (.int .i64 b))] (.bool (decide (a ≤ n ∧ n ≤ b))) := by
  refine V.Fn.mk_ V.Tok V.mixed Tryz.func92 rfl Tryz.ntmps92 (by kernel_rfl) rfl rfl ?_
  repeat' ((conv => whnf); first | refine V.NCond.mk ?_ | refine V.NPick.l ?_ | refine V.NIf.not_ ?_ | refine V.NIf.dec_ ?_ | refine V.a4 ?_ | refine V.a5 ?_ | refine V.NIf.mk (fun _ => ?_) (fun _ => ?_) | refine V.a7 ?_ | refine V.a8 ?_ | refine V.a9 ?_ | refine V.NBoth.mk ?_ ?_ | refine V.b1 ?_ | refine V.b2 ?_ | refine V.NTF.dec ?_ | refine V.b3 ?_ | refine V.b4 ?_ | (refine V.NDraw.any (by kernel_rfl) ?_) | fail)
  · exact ⟨_, rfl, by simp_all⟩
  · exact congrArg Value.bool (by simp_all; omega)
theorem v_agCheck (t : Tm) : V.Fn Tryz.prog 65 [] [.agg [.val (.int .i64 t.ex), .val (.int .i64 t.bu), .val (.int .i64 t.de), .val (.int .i64 t.ra)]] (.int .i64 (Ag.tchk t)) := by
  have h1 : Ag.Wi t → Ag.tchk t = 0 := fun h => if_pos h
  have h2 : ¬ Ag.Wi t → Ag.tchk t = 3 := fun h => if_neg h
  have hw : Ag.Wi t ↔ ((0 ≤ t.ex ∧ t.ex ≤ 100) ∧ (0 ≤ t.bu ∧ t.bu ≤ 100) ∧ (0 ≤ t.de ∧ t.de ≤ 100) ∧ (0 ≤ t.ra ∧ t.ra ≤ 1000000)) := Iff.rfl
  refine V.Fn.mk_ V.Tok V.mixed Tryz.func65 rfl Tryz.ntmps65 (by kernel_rfl) rfl rfl ?_
  repeat' ((conv => whnf); first | refine V.NCond.mk ?_ | refine V.NPick.l ?_ | refine V.NIf.not_ ?_ | refine V.NIf.dec_ ?_ | refine V.a4 ?_ | refine V.a5 ?_ | refine V.NIf.mk (fun _ => ?_) (fun _ => ?_) | refine V.a7 ?_ | refine V.a8 ?_ | refine V.a9 ?_ | refine V.NBoth.mk ?_ ?_ | refine V.b1 ?_ | refine V.b2 ?_ | refine V.NTF.dec ?_ | refine V.b3 ?_ | refine V.b4 ?_ | (first | refine V.Fn.k0 (v_agwithin _ _ _) rfl ?_ | refine V.Fn.q0 (v_agwithin _ _ _) rfl ?_ | refine V.Fn.a0 (v_agwithin _ _ _) rfl ?_) | (refine V.NDraw.any (by kernel_rfl) ?_) | fail)
  all_goals (conv => whnf)
  all_goals first
    | exact V.fin1 (h1 (hw.2 (by omega)))
    | exact V.fin1 (h2 (fun q => by have := hw.1 q; omega))
theorem v_agcheck (c : Cl) (t : Tm) (hc : c.hs.length ≤ 9223372036854775807) : V.Fn Tryz.prog 102 [.arr 1 c.hs.length (ga e1 c.hs)] [.agg [.val (.int .i64 c.we), .ref 0], .agg [.val (.int .i64 t.ex), .val (.int .i64 t.bu), .val (.int .i64 t.de), .val (.int .i64 t.ra)]] (.int .i64 (Ag.ck c t)) := by
  have h1 := @Ag.ck_1 c t
  have h2 := @Ag.ck_2 c t
  refine V.Fn.mk_ V.Tok V.mixed Tryz.func102 rfl Tryz.ntmps102 (by kernel_rfl) rfl rfl ?_
  repeat' ((conv => whnf); first | refine V.NCond.mk ?_ | refine V.NPick.l ?_ | refine V.NIf.not_ ?_ | refine V.NIf.dec_ ?_ | refine V.a4 ?_ | refine V.a5 ?_ | refine V.NIf.mk (fun _ => ?_) (fun _ => ?_) | refine V.a7 ?_ | refine V.a8 ?_ | refine V.a9 ?_ | refine V.NBoth.mk ?_ ?_ | refine V.b1 ?_ | refine V.b2 ?_ | refine V.NTF.dec ?_ | refine V.b3 ?_ | refine V.b4 ?_ | ((first | refine V.Fn.k (v_caCheck c hc) [0] rfl ?_ ?_ | refine V.Fn.q (v_caCheck c hc) [0] rfl ?_ ?_ | refine V.Fn.a (v_caCheck c hc) [0] rfl ?_ ?_); · exact V.D_) | (first | refine V.Fn.k0 (v_agCheck _) rfl ?_ | refine V.Fn.q0 (v_agCheck _) rfl ?_ | refine V.Fn.a0 (v_agCheck _) rfl ?_) | (refine V.NDraw.any (by kernel_rfl) ?_) | fail)
  all_goals (conv => whnf)
  · exact V.fin1 (h2 (by omega))
  · exact V.fin1 (h1 (by assumption))
theorem v_steps (c : Cl) (day : Int) (l : List Int) (h : Ca.Ok c) (hd : Ca.Day day) (hn : l.length ≤ 1000) (hb : ∀ x ∈ l, 0 ≤ x ∧ x ≤ 100) : V.FnR Tryz.prog 103 [.arr 1 c.hs.length (ga e1 c.hs), .arr 1 l.length (ga e1 l)] [.agg [.val (.int .i64 c.we), .ref 0], .one (.val (.int .i64 day)), .one (.ref 1)] (.tup [.one (.ref 2), .one (.val (.bool (decide (Ag.okS c day l))))]) [.row 3 1 (if Ag.okS c day l then Ag.sq c day l else []).length (ga e1 (if Ag.okS c day l then Ag.sq c day l else []))] := by
  have sl := Ag.sq_len c l day
  refine V.FnR.mk_ V.Tok V.mixed Tryz.func103 rfl Tryz.ntmps103 (by kernel_rfl) rfl rfl rfl rfl ?_
  repeat' ((conv => whnf); first | refine V.NCond.mk ?_ | refine V.NPick.l ?_ | refine V.NIf.not_ ?_ | refine V.NIf.dec_ ?_ | refine V.a4 ?_ | refine V.a5 ?_ | refine V.NIf.mk (fun _ => ?_) (fun _ => ?_) | refine V.a7 ?_ | refine V.a8 ?_ | refine V.a9 ?_ | refine V.NBoth.mk ?_ ?_ | refine V.b1 ?_ | refine V.b2 ?_ | refine V.NTF.dec ?_ | refine V.b3 ?_ | refine V.b4 ?_ | (refine V.NDraw.any (by kernel_rfl) ?_) | fail)
  all_goals (conv => whnf)
  refine V.NLoop.auto (fun (k : Nat) => [(13, .one (.val (.int .i64 k))), (1, .one (.val (.int .i64 ((day :: Ag.sq c day l).getD k default)))), (8, .one (.ref 4))]) (fun (k : Nat) => [(4, .row 3 1 ((Ag.sq c day l).take k).length (ga e1 ((Ag.sq c day l).take k)))]) [] [] (fun (k : Nat) => l.length - k) (fun (k : Nat) => k ≤ l.length ∧ ∀ j, j < k → 0 ≤ (Ag.sq c day l).getD j default) 0 ⟨Nat.zero_le _, fun j hj => absurd hj (Nat.not_lt_zero _)⟩ V.S_ V.S_ (fun _ => ⟨rfl, rfl⟩) ?_; (conv => whnf); refine ⟨⟨rfl, rfl⟩, ?_⟩
  rintro k ⟨hk, hJ⟩
  have dk := Ag.sq_day (l := l) hd k hk hJ
  by_cases hlt : k < l.length
  · have bk := hb _ (getD_mem hlt)
    have sa := Ag.sq_at c l day k hlt
    have tk : (Ag.sq c day l).take (k + 1) = (Ag.sq c day l).take k ++ [(Ag.sq c day l).getD k default] := by
      rw [List.take_succ_eq_append_getElem (by omega), getD_at (by omega)]
    have tl : ((Ag.sq c day l).take k).length = k := by rw [List.length_take]; omega
    generalize hx : (day :: Ag.sq c day l).getD k default = cur at *
    have rw_ := v_caRaw c cur (l.getD k default) h dk (by omega)
    rw [← sa] at rw_
    repeat' ((conv => whnf); first | refine V.NCond.mk ?_ | refine V.NPick.l ?_ | refine V.NIf.not_ ?_ | refine V.NIf.dec_ ?_ | refine V.a4 ?_ | refine V.a5 ?_ | refine V.NIf.mk (fun _ => ?_) (fun _ => ?_) | refine V.a7 ?_ | refine V.a8 ?_ | refine V.a9 ?_ | refine V.NBoth.mk ?_ ?_ | refine V.b1 ?_ | refine V.b2 ?_ | refine V.NTF.dec ?_ | refine V.b3 ?_ | refine V.b4 ?_ | (refine NIdx.mk ⟨k, rfl, by omega, ?_⟩) | ((first | refine V.Fn.k (rw_) [0] rfl ?_ ?_ | refine V.Fn.q (rw_) [0] rfl ?_ ?_ | refine V.Fn.a (rw_) [0] rfl ?_ ?_); · exact V.D_) | (refine V.NDraw.any (by kernel_rfl) ?_) | fail)
    all_goals (conv => whnf)
    · have no : ¬ Ag.okS c day l := fun q => by
        have := q _ (getD_mem (l := Ag.sq c day l) (k := k) (by omega))
        omega
      rw [if_neg no, decide_eq_false no]
      refine NRet.mk_ [some 5] rfl ⟨rfl, rfl, trivial⟩ ⟨⟨rfl, rfl, rfl, fun k hk => absurd hk (Nat.not_lt_zero _)⟩, trivial⟩
    · refine V.NBack.at_ (k + 1) [(4, 6)] ⟨by omega, fun j hj => ?_⟩ (by omega) V.S_ rfl ⟨ObLe.as_ tk, trivial⟩ V.S_ V.S_
      by_cases e : j = k
      · subst e; omega
      · exact hJ j (by omega)
  · obtain rfl : k = l.length := by omega
    have ok : Ag.okS c day l := fun x hx => by
      obtain ⟨j, hj, rfl⟩ := List.getElem_of_mem hx
      have := hJ j (by omega)
      rwa [getD_at hj] at this
    have tw : (Ag.sq c day l).take l.length = Ag.sq c day l := by rw [← sl, List.take_length]
    rw [tw]
    clear tw
    rw [if_pos ok, decide_eq_true ok]
    repeat' ((conv => whnf); first | refine V.NCond.mk ?_ | refine V.NPick.l ?_ | refine V.NIf.not_ ?_ | refine V.NIf.dec_ ?_ | refine V.a4 ?_ | refine V.a5 ?_ | refine V.NIf.mk (fun _ => ?_) (fun _ => ?_) | refine V.a7 ?_ | refine V.a8 ?_ | refine V.a9 ?_ | refine V.NBoth.mk ?_ ?_ | refine V.b1 ?_ | refine V.b2 ?_ | refine V.NTF.dec ?_ | refine V.b3 ?_ | refine V.b4 ?_ | (refine V.NDraw.any (by kernel_rfl) ?_) | fail)
    all_goals (conv => whnf)
    refine NRet.mk_ [some 4] rfl ⟨rfl, rfl, trivial⟩ ⟨⟨rfl, rfl, rfl, fun k hk => rfl⟩, trivial⟩
theorem v_steps4 (c : Cl) (t : Tm) (day : Int) (h : Ca.Ok c) (hw : Ag.Wi t) (hd : Ca.Day day) :
    (Ag.There c t day → V.FnR Tryz.prog 103 [.arr 1 c.hs.length (ga e1 c.hs), .arr 1 [0, t.ex, t.bu, t.de].length (ga e1 [0, t.ex, t.bu, t.de])] [.agg [.val (.int .i64 c.we), .ref 0], .one (.val (.int .i64 day)), .one (.ref 1)] (.tup [.one (.ref 2), .one (.val (.bool true))]) [.row 3 1 [day, Ag.d1 c t day, Ag.d2 c t day, Ag.d3 c t day].length (ga e1 [day, Ag.d1 c t day, Ag.d2 c t day, Ag.d3 c t day])]) ∧
    (¬ Ag.There c t day → V.FnR Tryz.prog 103 [.arr 1 c.hs.length (ga e1 c.hs), .arr 1 [0, t.ex, t.bu, t.de].length (ga e1 [0, t.ex, t.bu, t.de])] [.agg [.val (.int .i64 c.we), .ref 0], .one (.val (.int .i64 day)), .one (.ref 1)] (.tup [.one (.ref 2), .one (.val (.bool false))]) [.row 3 1 ([] : List Int).length (ga e1 [])]) := by
  obtain ⟨w1, w2, w3, w4⟩ := hw
  have s := v_steps c day [0, t.ex, t.bu, t.de] h hd (by simp) (fun x hx => by simp at hx; omega)
  refine ⟨fun q => ?_, fun q => ?_⟩
  · rw [decide_eq_true ((Ag.ok4 hd).2 q), if_pos ((Ag.ok4 hd).2 q), Ag.sq4] at s; exact s
  · rw [decide_eq_false (fun z => q ((Ag.ok4 hd).1 z)), if_neg (fun z => q ((Ag.ok4 hd).1 z))] at s; exact s
theorem v_agStage (c : Cl) (t : Tm) (f : Fl) (n : Int) (hc : c.hs.length ≤ 9223372036854775807) : V.Fn Tryz.prog 54 [.arr 1 c.hs.length (ga e1 c.hs)] [.agg [.val (.int .i64 c.we), .ref 0], .agg [.val (.int .i64 t.ex), .val (.int .i64 t.bu), .val (.int .i64 t.de), .val (.int .i64 t.ra)], .agg [.val (.int .i64 f.id), .val (.int .i64 f.fr), .val (.int .i64 f.to), .val (.int .i64 f.cl), .val (.int .i64 f.pa), .val (.int .i64 f.day), .val (.int .i64 f.un), .val (.int .i64 f.de), .val (.int .i64 f.bo), .val (.int .i64 f.pd)], .one (.val (.int .i64 n))] (.tuple #[.int .i64 (Ag.sV c t f n), .int .i64 (Ag.sE c t f n)]) := by
  have ck := v_agcheck c t hc
  by_cases h1 : Ag.ck c t = 0
  · by_cases h2 : F.chk f = 0
    · obtain ⟨k1, k2⟩ := Ag.ck_ok h1
      have hd := Ag.f_day h2
      have s3 := Ag.s0_3 (n := n) h1 h2
      obtain ⟨s1, s2⟩ := v_steps4 c t f.day (Ca.chk_ok k1) k2 hd
      have fc := v_fcheck f
      rw [h1] at ck
      rw [h2] at fc
      by_cases h3 : D.chk n = 0
      · have dc := v_dcheck n
        rw [h3] at dc s3
        by_cases h4 : Ag.There c t f.day
        · have s1 := s1 h4
          have e := Ag.sE_3 s3 h4
          rw [e, Ag.sV_yes e]
          refine V.Fn.mk_ V.Tok V.mixed Tryz.func54 rfl Tryz.ntmps54 (by kernel_rfl) rfl rfl ?_
          repeat' ((conv => whnf); first | (refine V.NIf.yes ?_ ?_; · (decide; done)) | (refine V.NIf.no ?_ ?_; · (decide; done)) | refine V.NCond.mk ?_ | refine V.NPick.l ?_ | refine V.NIf.not_ ?_ | refine V.NIf.dec_ ?_ | refine V.a4 ?_ | refine V.a5 ?_ | refine V.NIf.mk (fun _ => ?_) (fun _ => ?_) | refine V.a7 ?_ | refine V.a8 ?_ | refine V.a9 ?_ | refine V.NBoth.mk ?_ ?_ | refine V.b1 ?_ | refine V.b2 ?_ | refine V.NTF.dec ?_ | refine V.b3 ?_ | refine V.b4 ?_ | (refine V.NCall.inl (f := 78) V.Tok V.mixed Tryz.func78 rfl Tryz.ntmps78 (by kernel_rfl) rfl ?_) | (refine V.NCall.inl (f := 79) V.Tok V.mixed Tryz.func79 rfl Tryz.ntmps79 (by kernel_rfl) rfl ?_) | ((first | refine V.Fn.k (ck) [0] rfl ?_ ?_ | refine V.Fn.q (ck) [0] rfl ?_ ?_ | refine V.Fn.a (ck) [0] rfl ?_ ?_); · exact V.D_) | (first | refine V.Fn.k0 (dc) rfl ?_ | refine V.Fn.q0 (dc) rfl ?_ | refine V.Fn.a0 (dc) rfl ?_) | (first | refine V.Fn.k0 (fc) rfl ?_ | refine V.Fn.q0 (fc) rfl ?_ | refine V.Fn.a0 (fc) rfl ?_) | ((first | refine V.FnR.k_ (s1) [0, 7] rfl ?_ ?_ | refine V.FnR.a_ (s1) [0, 7] rfl ?_ ?_); · exact V.D_) | (first | refine V.Fn.k0 (v_fleft f (F.chk_ok h2)) rfl ?_ | refine V.Fn.q0 (v_fleft f (F.chk_ok h2)) rfl ?_ | refine V.Fn.a0 (v_fleft f (F.chk_ok h2)) rfl ?_) | (refine V.NDraw.any (by kernel_rfl) ?_) | fail)
          all_goals (conv => whnf)
          · exact ⟨V.fin1 (if_pos (by assumption)), rfl, trivial⟩
          rw [Ag.stg_cn (by assumption)]
          generalize hl : [f.day, Ag.d1 c t f.day, Ag.d2 c t f.day, Ag.d3 c t f.day] = l at *
          have nl : l.length = 4 := by rw [← hl]; rfl
          refine V.NLoop.auto (fun (k : Nat) => [(19, .one (.val (.int .i64 k))), (5, .one (.val (.int .i64 (Ag.cn n (l.take k)))))]) (fun (k : Nat) => []) [] [] (fun (k : Nat) => l.length - k) (fun (k : Nat) => k ≤ l.length) 0 (Nat.zero_le _) V.S_ V.S_ (fun _ => ⟨rfl, rfl⟩) ?_; (conv => whnf); refine ⟨⟨rfl, rfl⟩, ?_⟩
          rintro k hk
          have b := Ag.cn_bd n (l.take k)
          rw [List.length_take] at b
          by_cases hlt : k < l.length
          · have sn : Ag.cn n (l.take (k + 1)) = Ag.cn n (l.take k) + Ag.one (l.getD k default < n) := by
              rw [List.take_succ_eq_append_getElem hlt, Ag.cn_snoc, getD_at hlt]
            repeat' ((conv => whnf); first | refine V.NCond.mk ?_ | refine V.NPick.l ?_ | refine V.NIf.not_ ?_ | refine V.NIf.dec_ ?_ | refine V.a4 ?_ | refine V.a5 ?_ | refine V.NIf.mk (fun _ => ?_) (fun _ => ?_) | refine V.a7 ?_ | refine V.a8 ?_ | refine V.a9 ?_ | refine V.NBoth.mk ?_ ?_ | refine V.b1 ?_ | refine V.b2 ?_ | refine V.NTF.dec ?_ | refine V.b3 ?_ | refine V.b4 ?_ | (refine NIdx.mk ⟨k, rfl, by omega, ?_⟩) | (refine V.NDraw.any (by kernel_rfl) ?_) | fail)
            all_goals (conv => whnf)
            · exact V.NBack.at_ (k + 1) [] (by omega) (by omega) ⟨V.S_, congrArg (fun z => V.SV.one (V.At.val (Value.int .i64 z))) (by rw [sn]; unfold Ag.one; rw [if_pos (by assumption)]), trivial⟩ rfl V.S_ V.S_ V.S_
            · exact V.NBack.at_ (k + 1) [] (by omega) (by omega) ⟨V.S_, congrArg (fun z => V.SV.one (V.At.val (Value.int .i64 z))) (by rw [sn]; unfold Ag.one; rw [if_neg (by assumption)]; omega), trivial⟩ rfl V.S_ V.S_ V.S_
          · obtain rfl : k = l.length := by omega
            rw [List.take_length]
            repeat' ((conv => whnf); first | refine V.NCond.mk ?_ | refine V.NPick.l ?_ | refine V.NIf.not_ ?_ | refine V.NIf.dec_ ?_ | refine V.a4 ?_ | refine V.a5 ?_ | refine V.NIf.mk (fun _ => ?_) (fun _ => ?_) | refine V.a7 ?_ | refine V.a8 ?_ | refine V.a9 ?_ | refine V.NBoth.mk ?_ ?_ | refine V.b1 ?_ | refine V.b2 ?_ | refine V.NTF.dec ?_ | refine V.b3 ?_ | refine V.b4 ?_ | (refine V.NDraw.any (by kernel_rfl) ?_) | fail)
            all_goals (conv => whnf)
            exact ⟨rfl, rfl, trivial⟩
        · have s2 := s2 h4
          have e := Ag.sE_2 s3 h4
          rw [e, (Ag.sV_no (by omega)).1]
          refine V.Fn.mk_ V.Tok V.mixed Tryz.func54 rfl Tryz.ntmps54 (by kernel_rfl) rfl rfl ?_
          repeat' ((conv => whnf); first | (refine V.NIf.yes ?_ ?_; · (decide; done)) | (refine V.NIf.no ?_ ?_; · (decide; done)) | refine V.NCond.mk ?_ | refine V.NPick.l ?_ | refine V.NIf.not_ ?_ | refine V.NIf.dec_ ?_ | refine V.a4 ?_ | refine V.a5 ?_ | refine V.NIf.mk (fun _ => ?_) (fun _ => ?_) | refine V.a7 ?_ | refine V.a8 ?_ | refine V.a9 ?_ | refine V.NBoth.mk ?_ ?_ | refine V.b1 ?_ | refine V.b2 ?_ | refine V.NTF.dec ?_ | refine V.b3 ?_ | refine V.b4 ?_ | (refine V.NCall.inl (f := 78) V.Tok V.mixed Tryz.func78 rfl Tryz.ntmps78 (by kernel_rfl) rfl ?_) | ((first | refine V.Fn.k (ck) [0] rfl ?_ ?_ | refine V.Fn.q (ck) [0] rfl ?_ ?_ | refine V.Fn.a (ck) [0] rfl ?_ ?_); · exact V.D_) | (first | refine V.Fn.k0 (dc) rfl ?_ | refine V.Fn.q0 (dc) rfl ?_ | refine V.Fn.a0 (dc) rfl ?_) | (first | refine V.Fn.k0 (fc) rfl ?_ | refine V.Fn.q0 (fc) rfl ?_ | refine V.Fn.a0 (fc) rfl ?_) | ((first | refine V.FnR.k_ (s2) [0, 7] rfl ?_ ?_ | refine V.FnR.a_ (s2) [0, 7] rfl ?_ ?_); · exact V.D_) | (refine V.NDraw.any (by kernel_rfl) ?_) | fail)
          all_goals (conv => whnf)
          all_goals exact ⟨rfl, rfl, trivial⟩
      · have e := (Ag.sE_1 (c := c) (t := t) (f := f) (n := n) (by omega)).trans s3
        rw [e, (Ag.sV_no (by omega)).1]
        refine V.Fn.mk_ V.Tok V.mixed Tryz.func54 rfl Tryz.ntmps54 (by kernel_rfl) rfl rfl ?_
        repeat' ((conv => whnf); first | (refine V.NIf.yes ?_ ?_; · (decide; done)) | (refine V.NIf.no ?_ ?_; · (decide; done)) | refine V.NCond.mk ?_ | refine V.NPick.l ?_ | refine V.NIf.not_ ?_ | refine V.NIf.dec_ ?_ | refine V.a4 ?_ | refine V.a5 ?_ | refine V.NIf.mk (fun _ => ?_) (fun _ => ?_) | refine V.a7 ?_ | refine V.a8 ?_ | refine V.a9 ?_ | refine V.NBoth.mk ?_ ?_ | refine V.b1 ?_ | refine V.b2 ?_ | refine V.NTF.dec ?_ | refine V.b3 ?_ | refine V.b4 ?_ | (refine V.NCall.inl (f := 78) V.Tok V.mixed Tryz.func78 rfl Tryz.ntmps78 (by kernel_rfl) rfl ?_) | ((first | refine V.Fn.k (ck) [0] rfl ?_ ?_ | refine V.Fn.q (ck) [0] rfl ?_ ?_ | refine V.Fn.a (ck) [0] rfl ?_ ?_); · exact V.D_) | (first | refine V.Fn.k0 (v_dcheck n) rfl ?_ | refine V.Fn.q0 (v_dcheck n) rfl ?_ | refine V.Fn.a0 (v_dcheck n) rfl ?_) | (first | refine V.Fn.k0 (fc) rfl ?_ | refine V.Fn.q0 (fc) rfl ?_ | refine V.Fn.a0 (fc) rfl ?_) | (refine V.NDraw.any (by kernel_rfl) ?_) | fail)
        all_goals (conv => whnf)
        all_goals exact ⟨rfl, rfl, trivial⟩
    · have s3 := Ag.s0_2 (n := n) h1 h2
      have e := (Ag.sE_1 (c := c) (t := t) (f := f) (n := n) (by omega)).trans s3
      rw [e, (Ag.sV_no (by omega)).1]
      rw [h1] at ck
      refine V.Fn.mk_ V.Tok V.mixed Tryz.func54 rfl Tryz.ntmps54 (by kernel_rfl) rfl rfl ?_
      repeat' ((conv => whnf); first | (refine V.NIf.yes ?_ ?_; · (decide; done)) | (refine V.NIf.no ?_ ?_; · (decide; done)) | refine V.NCond.mk ?_ | refine V.NPick.l ?_ | refine V.NIf.not_ ?_ | refine V.NIf.dec_ ?_ | refine V.a4 ?_ | refine V.a5 ?_ | refine V.NIf.mk (fun _ => ?_) (fun _ => ?_) | refine V.a7 ?_ | refine V.a8 ?_ | refine V.a9 ?_ | refine V.NBoth.mk ?_ ?_ | refine V.b1 ?_ | refine V.b2 ?_ | refine V.NTF.dec ?_ | refine V.b3 ?_ | refine V.b4 ?_ | (refine V.NCall.inl (f := 78) V.Tok V.mixed Tryz.func78 rfl Tryz.ntmps78 (by kernel_rfl) rfl ?_) | ((first | refine V.Fn.k (ck) [0] rfl ?_ ?_ | refine V.Fn.q (ck) [0] rfl ?_ ?_ | refine V.Fn.a (ck) [0] rfl ?_ ?_); · exact V.D_) | (first | refine V.Fn.k0 (v_fcheck f) rfl ?_ | refine V.Fn.q0 (v_fcheck f) rfl ?_ | refine V.Fn.a0 (v_fcheck f) rfl ?_) | (refine V.NDraw.any (by kernel_rfl) ?_) | fail)
      all_goals (conv => whnf)
      all_goals exact ⟨rfl, rfl, trivial⟩
  · have s3 := Ag.s0_1 (f := f) (n := n) h1
    have e := (Ag.sE_1 (c := c) (t := t) (f := f) (n := n) (by omega)).trans s3
    rw [e, (Ag.sV_no (by omega)).1]
    refine V.Fn.mk_ V.Tok V.mixed Tryz.func54 rfl Tryz.ntmps54 (by kernel_rfl) rfl rfl ?_
    repeat' ((conv => whnf); first | (refine V.NIf.yes ?_ ?_; · (decide; done)) | (refine V.NIf.no ?_ ?_; · (decide; done)) | refine V.NCond.mk ?_ | refine V.NPick.l ?_ | refine V.NIf.not_ ?_ | refine V.NIf.dec_ ?_ | refine V.a4 ?_ | refine V.a5 ?_ | refine V.NIf.mk (fun _ => ?_) (fun _ => ?_) | refine V.a7 ?_ | refine V.a8 ?_ | refine V.a9 ?_ | refine V.NBoth.mk ?_ ?_ | refine V.b1 ?_ | refine V.b2 ?_ | refine V.NTF.dec ?_ | refine V.b3 ?_ | refine V.b4 ?_ | (refine V.NCall.inl (f := 78) V.Tok V.mixed Tryz.func78 rfl Tryz.ntmps78 (by kernel_rfl) rfl ?_) | ((first | refine V.Fn.k (ck) [0] rfl ?_ ?_ | refine V.Fn.q (ck) [0] rfl ?_ ?_ | refine V.Fn.a (ck) [0] rfl ?_ ?_); · exact V.D_) | (refine V.NDraw.any (by kernel_rfl) ?_) | fail)
    all_goals (conv => whnf)
    all_goals exact ⟨rfl, rfl, trivial⟩
end Go.Proofs.YtpanlcnoopmchaaGreatDoor

namespace Go.Proofs.YtpanlcnoopmchaaGreatDoor
open Go Go.RowKit V
end Go.Proofs.YtpanlcnoopmchaaGreatDoor

namespace Go.Proofs.YtpanlcnoopmchaaGreatDoor
open Go Go.RowKit V
theorem fin_ii {x y u v : Int} (h1 : u = x) (h2 : v = y) : Fin1 (.one (.val (.int .i64 x))) (.int .i64 u) ∧ FinL [.one (.val (.int .i64 y))] [.int .i64 v] := ⟨V.fin1 h1, V.fin1 h2, trivial⟩
namespace Pn
theorem cost_yes {u p : Int} (hu : 0 ≤ u ∧ u ≤ 1073741824) (hp : P.Ok p) : M.prE u p 10000 = 0 ∧ M.prQ u p 10000 = P.cost u p := by
  have b := P.cost_bd hu hp
  have hp' := hp
  unfold P.Ok at hp'
  have k : M.POk u p 10000 := ⟨by unfold M.Amt; omega, hp', by omega⟩
  have a : M.Amt (u * p / 10000) := by unfold P.cost at b; unfold M.Amt; omega
  exact ⟨(M.pr_3 k a).1, (M.pr_3 k a).2.1⟩
theorem cost_no {u p : Int} (hp : ¬ P.Ok p) : M.prE u p 10000 = 3 := (M.pr_1 fun k => hp k.2.1).1
end Pn
theorem v_daily (u p r : Int) : V.Fn Tryz.prog 76 [] [.one (.val (.int .i64 u)), .one (.val (.int .i64 p)), .one (.val (.int .i64 r))] (.tuple #[.int .i64 (Pn.dV u p r), .int .i64 (Pn.dE u p r)]) := by
  refine V.Fn.mk_ V.Tok V.mixed Tryz.func76 rfl Tryz.ntmps76 (by kernel_rfl) rfl rfl ?_
  repeat' ((conv => whnf); first | refine V.NCond.mk ?_ | refine V.NPick.l ?_ | refine V.NIf.not_ ?_ | refine V.NIf.dec_ ?_ | refine V.a4 ?_ | refine V.a5 ?_ | refine V.NIf.mk (fun _ => ?_) (fun _ => ?_) | refine V.a7 ?_ | refine V.a8 ?_ | refine V.a9 ?_ | refine V.NBoth.mk ?_ ?_ | refine V.b1 ?_ | refine V.b2 ?_ | refine V.NTF.dec ?_ | refine V.b3 ?_ | refine V.b4 ?_ | (first | refine V.Fn.k0 (v_cost _ _) rfl ?_ | refine V.Fn.q0 (v_cost _ _) rfl ?_ | refine V.Fn.a0 (v_cost _ _) rfl ?_) | (first | refine V.Fn.k0 (v_part _ _ _) rfl ?_ | refine V.Fn.q0 (v_part _ _ _) rfl ?_ | refine V.Fn.a0 (v_part _ _ _) rfl ?_) | (refine V.NDraw.any (by kernel_rfl) ?_) | fail)
  all_goals (conv => whnf)
  iterate 4
    · have n : ¬ Pn.Ok u p r := fun k => by obtain ⟨a, _, b⟩ := k; omega
      exact fin_ii (Pn.d_no n).2 (Pn.d_no n).1
  · have pk : P.Ok p := Classical.byContradiction fun n => by have := Pn.cost_no (u := u) n; omega
    have k : Pn.Ok u p r := ⟨by omega, pk, by omega⟩
    rw [(Pn.cost_yes k.1 pk).2]
    exact fin_ii ((Pn.d_yes k).2.trans (Pn.cs_part k).2.symm) ((Pn.d_yes k).1.trans (Pn.cs_part k).1.symm)
  · have pk : ¬ P.Ok p := fun k => by have := (Pn.cost_yes (u := u) (by omega) k).1; omega
    have n : ¬ Pn.Ok u p r := fun k => pk k.2.1
    exact fin_ii (Pn.d_no n).2 ((Pn.d_no n).1.trans (Pn.cost_no pk).symm)
theorem v_pterms (t : List Tm) (hn : t.length ≤ 9223372036854775807) : V.Fn Tryz.prog 45 [.arr 4 t.length (ga encTm t)] [.one (.ref 0)] (.int .i64 (Pn.tE t)) := by
  refine V.Fn.mk_ V.Tok V.mixed Tryz.func45 rfl Tryz.ntmps45 (by kernel_rfl) rfl rfl ?_
  repeat' ((conv => whnf); first | refine V.NCond.mk ?_ | refine V.NPick.l ?_ | refine V.NIf.not_ ?_ | refine V.NIf.dec_ ?_ | refine V.a4 ?_ | refine V.a5 ?_ | refine V.NIf.mk (fun _ => ?_) (fun _ => ?_) | refine V.a7 ?_ | refine V.a8 ?_ | refine V.a9 ?_ | refine V.NBoth.mk ?_ ?_ | refine V.b1 ?_ | refine V.b2 ?_ | refine V.NTF.dec ?_ | refine V.b3 ?_ | refine V.b4 ?_ | (refine V.NDraw.any (by kernel_rfl) ?_) | fail)
  all_goals (conv => whnf)
  rotate_left
  · exact V.fin1 (Pn.tE_len (by omega))
  refine V.NLoop.auto (fun (k : Nat) => [(11, .one (.val (.int .i64 k)))]) (fun (k : Nat) => []) [] [] (fun (k : Nat) => t.length - k) (fun (k : Nat) => k ≤ t.length ∧ ∀ x ∈ t.take k, Ag.Wi x) 0 ⟨by omega, by simp⟩ V.S_ V.S_ (fun _ => ⟨rfl, rfl⟩) ?_; (conv => whnf); refine ⟨⟨rfl, rfl⟩, ?_⟩
  rintro k ⟨hk, hJ⟩
  repeat' ((conv => whnf); first | refine V.NCond.mk ?_ | refine V.NPick.l ?_ | refine V.NIf.not_ ?_ | refine V.NIf.dec_ ?_ | refine V.a4 ?_ | refine V.a5 ?_ | refine V.NIf.mk (fun _ => ?_) (fun _ => ?_) | refine V.a7 ?_ | refine V.a8 ?_ | refine V.a9 ?_ | refine V.NBoth.mk ?_ ?_ | refine V.b1 ?_ | refine V.b2 ?_ | refine V.NTF.dec ?_ | refine V.b3 ?_ | refine V.b4 ?_ | (refine NIdx.mk ⟨_, rfl, by omega, ?_⟩) | (first | refine V.Fn.k0 (v_agCheck _) rfl ?_ | refine V.Fn.q0 (v_agCheck _) rfl ?_ | refine V.Fn.a0 (v_agCheck _) rfl ?_) | (refine V.NDraw.any (by kernel_rfl) ?_) | fail)
  all_goals (conv => whnf)
  · exact V.NBack.at_ (k + 1) [] ⟨by omega, all_snoc (by omega) hJ (Ag.tchk_ok (by assumption))⟩ (by omega) V.S_ rfl V.S_ V.S_ V.S_
  · have n : ¬ Ag.Wi (t.getD k default) := fun h => absurd (show Ag.tchk (t.getD k default) = 0 from if_pos h) (by assumption)
    exact V.fin1 ((Pn.tE_bad (by omega) (getD_mem (by omega)) n).trans (show Ag.tchk (t.getD k default) = 3 from if_neg n).symm)
  · exact V.fin1 (Pn.tE_of (by omega) fun x hx => hJ x (by rw [List.take_of_length_le (by omega)]; exact hx))
theorem v_popen (c : Cl) (n : Int) (hn : c.hs.length ≤ 9223372036854775807) : V.Fn Tryz.prog 75 [.arr 1 c.hs.length (ga e1 c.hs)] [.agg [.val (.int .i64 c.we), .ref 0], .one (.val (.int .i64 n))] (.int .i64 (Pn.oE c n)) := by
  refine V.Fn.mk_ V.Tok V.mixed Tryz.func75 rfl Tryz.ntmps75 (by kernel_rfl) rfl rfl ?_
  repeat' ((conv => whnf); first | refine V.NCond.mk ?_ | refine V.NPick.l ?_ | refine V.NIf.not_ ?_ | refine V.NIf.dec_ ?_ | refine V.a4 ?_ | refine V.a5 ?_ | refine V.NIf.mk (fun _ => ?_) (fun _ => ?_) | refine V.a7 ?_ | refine V.a8 ?_ | refine V.a9 ?_ | refine V.NBoth.mk ?_ ?_ | refine V.b1 ?_ | refine V.b2 ?_ | refine V.NTF.dec ?_ | refine V.b3 ?_ | refine V.b4 ?_ | ((first | refine V.Fn.k (v_caIs c n hn) [0] rfl ?_ ?_ | refine V.Fn.q (v_caIs c n hn) [0] rfl ?_ ?_ | refine V.Fn.a (v_caIs c n hn) [0] rfl ?_ ?_); · exact V.D_) | (refine V.NDraw.any (by kernel_rfl) ?_) | fail)
  all_goals (conv => whnf)
  · exact V.fin1 ((if_neg (by omega)).trans ((if_pos (by unfold Ca.isV; simp; assumption)).trans (by omega)))
  · exact V.fin1 ((if_neg (by omega)).trans (if_neg (by unfold Ca.isV; rw [decide_eq_true_iff]; assumption)))
  · exact V.fin1 (if_pos (by assumption))
namespace Pn
theorem oE_yes {c : Cl} {n : Int} (h : Ca.chk c = 0) (k : Ca.Day n ∧ Ca.op c n = 1) : oE c n = 0 := by
  have e := Ca.e1_of h k.1
  exact (if_neg (by omega)).trans (if_pos (by unfold Ca.isV; rw [decide_eq_true_iff]; exact ⟨e, k.2⟩))
theorem oE_4 {c : Cl} {n : Int} (h : Ca.chk c = 0) (d : Ca.Day n) (k : ¬ (Ca.Day n ∧ Ca.op c n = 1)) : oE c n = 4 := by
  have e := Ca.e1_of h d
  exact (if_neg (by omega)).trans (if_neg (by unfold Ca.isV; rw [decide_eq_true_iff]; exact fun z => k ⟨d, z.2⟩))
end Pn
abbrev penO (c : Cl) (t : List Tm) (l : List Fl) (ps : List Int) : List Ob := [.arr 1 c.hs.length (ga e1 c.hs), .arr 4 t.length (ga encTm t), .arr 10 l.length (ga encF l), .arr 1 ps.length (ga e1 ps)]
end Go.Proofs.YtpanlcnoopmchaaGreatDoor

namespace Go.Proofs.YtpanlcnoopmchaaGreatDoor
open Go Go.RowKit V
namespace Pn
def po (p : Nat) (n : Int) : List Po := if n = 0 then [] else [⟨p, 0, n⟩]
def pos (s : List Int) (k : Nat) : List Po := (List.range k).flatMap fun p => po p (s.getD p default)
theorem pos_snoc (s : List Int) (k : Nat) : pos s (k + 1) = pos s k ++ po k (s.getD k default) := by
  unfold pos; rw [List.range_succ, List.flatMap_append]; simp
theorem pos_len (s : List Int) : ∀ k, (pos s k).length ≤ k
  | 0 => by simp [pos]
  | k + 1 => by
    have h := pos_len s k
    rw [pos_snoc, List.length_append]
    have : (po k (s.getD k default)).length ≤ 1 := by unfold po; split <;> simp
    omega
theorem po_yes {p : Nat} {n : Int} (h : n ≠ 0) : po p n = [⟨p, 0, n⟩] := if_neg h
theorem po_no {p : Nat} {n : Int} (h : n = 0) : po p n = [] := if_pos h
def suE (l : List Du) : Int := if Nt.stE l ≠ 0 then Nt.stE l else if (pos (Nt.st l) 31).length = 0 then 5 else 0
def suL (l : List Du) : List Po := if suE l = 0 then pos (Nt.st l) 31 else []
end Pn
theorem v_psum (l : List Du) (hn : l.length ≤ 9223372036854775807) : V.FnR Tryz.prog 53 [.arr 3 l.length (ga encD l)] [.one (.ref 0)] (.tup [.one (.ref 1), .one (.val (.int .i64 (Pn.suE l)))]) [.row 52 3 (Pn.suL l).length (ga encP (Pn.suL l))] := by
  refine V.FnR.mk_ V.Tok V.mixed Tryz.func53 rfl Tryz.ntmps53 (by kernel_rfl) rfl rfl rfl rfl ?_
  repeat' ((conv => whnf); first | refine V.NCond.mk ?_ | refine V.NPick.l ?_ | refine V.NIf.not_ ?_ | refine V.NIf.dec_ ?_ | refine V.a4 ?_ | refine V.a5 ?_ | refine V.NIf.mk (fun _ => ?_) (fun _ => ?_) | refine V.a7 ?_ | refine V.a8 ?_ | refine V.a9 ?_ | refine V.NBoth.mk ?_ ?_ | refine V.b1 ?_ | refine V.b2 ?_ | refine V.NTF.dec ?_ | refine V.b3 ?_ | refine V.b4 ?_ | ((first | refine V.FnR.k_ (v_stand l hn) [0] rfl ?_ ?_ | refine V.FnR.a_ (v_stand l hn) [0] rfl ?_ ?_); · exact V.D_) | (refine V.NDraw.any (by kernel_rfl) ?_) | fail)
  all_goals (conv => whnf)
  rotate_left
  · have e : Pn.suE l = Nt.stE l := if_pos (by assumption)
    rw [show Pn.suL l = [] from if_neg (by rw [e]; assumption), e]
    (first | exact V.er 0 | exact V.er 1 | exact V.er 2 | exact V.er 3 | exact V.er 4 | exact V.er 5 | exact V.er 6 | exact V.er 7 | exact V.er 8 | exact V.er 9 | exact V.er 10 | exact V.er 11 | exact V.er 12 | exact V.er 13 | exact V.er 14 | exact V.er 15 | exact V.er 16 | exact V.er 17)
  have h0 : Nt.stE l = 0 := by assumption
  have s31 : (Nt.st l).length = 31 := by rw [show Nt.st l = Nt.sums l 31 from if_pos h0]; simp [Nt.sums]
  refine V.NLoop.auto (fun (k : Nat) => [(19, .one (.val (.int .i64 k))), (6, .one (.ref 3))]) (fun (k : Nat) => [(3, .row 52 3 (Pn.pos (Nt.st l) k).length (ga encP (Pn.pos (Nt.st l) k)))]) [] [] (fun (k : Nat) => 31 - k) (fun (k : Nat) => k ≤ 31) 0 (Nat.zero_le _) V.S_ V.S_ (fun _ => ⟨rfl, rfl⟩) ?_; (conv => whnf); refine ⟨⟨rfl, rfl⟩, ?_⟩
  rintro k hk
  by_cases hlt : k < 31
  · have pl := Pn.pos_len (Nt.st l) k
    have ps := Pn.pos_snoc (Nt.st l) k
    repeat' ((conv => whnf); first | (refine NApp.one (en := encP) (l := Pn.pos (Nt.st l) k) (x := ⟨k, 0, (Nt.st l).getD k default⟩) (by simp; omega) (by simp; omega) ?_) | refine V.NCond.mk ?_ | refine V.NPick.l ?_ | refine V.NIf.not_ ?_ | refine V.NIf.dec_ ?_ | refine V.a4 ?_ | refine V.a5 ?_ | refine V.NIf.mk (fun _ => ?_) (fun _ => ?_) | refine V.a7 ?_ | refine V.a8 ?_ | refine V.a9 ?_ | refine V.NBoth.mk ?_ ?_ | refine V.b1 ?_ | refine V.b2 ?_ | refine V.NTF.dec ?_ | refine V.b3 ?_ | refine V.b4 ?_ | (refine NIdx.mk ⟨_, rfl, by omega, ?_⟩) | (refine V.NDraw.any (by kernel_rfl) ?_) | fail)
    all_goals (conv => whnf)
    all_goals first
      | exact V.NBack.at_ (k + 1) [] (by omega) (by omega) V.S_ rfl ⟨ObLe.as_ (ps.trans (by rw [Pn.po_no (by assumption), List.append_nil])), trivial⟩ V.S_ V.S_
      | exact V.NBack.at_ (k + 1) [(3, 5)] (by omega) (by omega) V.S_ rfl ⟨ObLe.as_ (ps.trans (by rw [Pn.po_yes (by assumption)])), trivial⟩ V.S_ V.S_
      | skip
  obtain rfl : k = 31 := by omega
  repeat' ((conv => whnf); first | refine V.NCond.mk ?_ | refine V.NPick.l ?_ | refine V.NIf.not_ ?_ | refine V.NIf.dec_ ?_ | refine V.a4 ?_ | refine V.a5 ?_ | refine V.NIf.mk (fun _ => ?_) (fun _ => ?_) | refine V.a7 ?_ | refine V.a8 ?_ | refine V.a9 ?_ | refine V.NBoth.mk ?_ ?_ | refine V.b1 ?_ | refine V.b2 ?_ | refine V.NTF.dec ?_ | refine V.b3 ?_ | refine V.b4 ?_ | (refine V.NDraw.any (by kernel_rfl) ?_) | fail)
  all_goals (conv => whnf)
  · have e : Pn.suE l = 5 := (if_neg (by omega)).trans (if_pos (by omega))
    rw [show Pn.suL l = [] from if_neg (by omega), e]
    (first | exact V.er 0 | exact V.er 1 | exact V.er 2 | exact V.er 3 | exact V.er 4 | exact V.er 5 | exact V.er 6 | exact V.er 7 | exact V.er 8 | exact V.er 9 | exact V.er 10 | exact V.er 11 | exact V.er 12 | exact V.er 13 | exact V.er 14 | exact V.er 15 | exact V.er 16 | exact V.er 17)
  · have e : Pn.suE l = 0 := (if_neg (by omega)).trans (if_neg (by omega))
    rw [show Pn.suL l = Pn.pos (Nt.st l) 31 from if_pos e, e]
    (first | exact V.erf 0 | exact V.erf 1 | exact V.erf 2 | exact V.erf 3 | exact V.erf 4 | exact V.erf 5 | exact V.erf 6 | exact V.erf 7 | exact V.erf 8 | exact V.erf 9 | exact V.erf 10 | exact V.erf 11 | exact V.erf 12 | exact V.erf 13 | exact V.erf 14 | exact V.erf 15 | exact V.erf 16 | exact V.erf 17)
end Go.Proofs.YtpanlcnoopmchaaGreatDoor

namespace Go.Proofs.YtpanlcnoopmchaaGreatDoor
namespace Nt
def up (f : Nat → Int) (n : Nat) : Int := M.sum ((List.range n).map f)
end Nt
end Go.Proofs.YtpanlcnoopmchaaGreatDoor

namespace Go.Proofs.YtpanlcnoopmchaaGreatDoor
namespace Pn
theorem su_ok {l : List Du} (h : suE l = 0) : Nt.stE l = 0 ∧ (pos (Nt.st l) 31).length ≠ 0 ∧ suL l = pos (Nt.st l) 31 := by
  have e : suL l = pos (Nt.st l) 31 := if_pos h
  unfold suE at h
  split at h
  · exact absurd h (by assumption)
  · split at h
    · cases h
    · exact ⟨by omega, by assumption, e⟩
end Pn
end Go.Proofs.YtpanlcnoopmchaaGreatDoor

namespace Go.Proofs.YtpanlcnoopmchaaGreatDoor
namespace Pn
theorem checks_take {l : List Fl} (k : Nat) (h : F.checks l = 0) : F.checks (l.take k) = 0 := by
  obtain ⟨a, b, c⟩ := K.checks_all h
  refine K.checks_of (by rw [List.length_take]; omega) (fun f hf => b f (List.mem_of_mem_take hf)) ?_
  rw [List.map_take]
  exact c.sublist (List.take_sublist _ _)
theorem checks_drop {l : List Fl} (k : Nat) (h : F.checks l = 0) : F.checks (l.drop k) = 0 := by
  obtain ⟨a, b, c⟩ := K.checks_all h
  refine K.checks_of (by rw [List.length_drop]; omega) (fun f hf => b f (List.mem_of_mem_drop hf)) ?_
  rw [List.map_drop]
  exact c.sublist (List.drop_sublist _ _)
theorem y_of {c : Cl} {t : List Tm} {l : List Fl} {ps : List Int} {n : Int} (R : Right c t l ps n) (h : ∀ f ∈ l, eF c t n f = 0) : yD c t l ps n = 0 ∧ yL c t l ps n = dus c t ps n l := y_yes (yE_of R) (fb_yes h)
theorem parts {c : Cl} {t : List Tm} {l : List Fl} {ps : List Int} {n : Int} (h : yD c t l ps n = 0) (k : Nat) :
    yD c t (l.take k) ps n = 0 ∧ yD c t (l.drop k) ps n = 0 ∧ yL c t l ps n = yL c t (l.take k) ps n ++ yL c t (l.drop k) ps n := by
  obtain ⟨R, a, e⟩ := y_ok h
  have h1 := y_of (l := l.take k) ⟨R.kc, R.kt, checks_take k R.kl, R.kp, R.ko⟩ fun f hf => a f (List.mem_of_mem_take hf)
  have h2 := y_of (l := l.drop k) ⟨R.kc, R.kt, checks_drop k R.kl, R.kp, R.ko⟩ fun f hf => a f (List.mem_of_mem_drop hf)
  refine ⟨h1.1, h2.1, ?_⟩
  rw [e, h1.2, h2.2]
  unfold dus
  rw [← List.flatMap_append, List.take_append_drop]
theorem yL_len (c : Cl) (t : List Tm) (l : List Fl) (ps : List Int) (n : Int) : (yL c t l ps n).length ≤ 60 := by
  by_cases h : yD c t l ps n = 0
  · obtain ⟨R, _, e⟩ := y_ok h
    rw [e]
    have := dus_len c t ps n l
    have := F.checks_len (l := l) (by have := R.kl; omega)
    omega
  · rw [show yL c t l ps n = [] from if_neg h]; decide
noncomputable def ln1 (c : Cl) (t : List Tm) (n : Int) (f : Fl) : Int := open Classical in if Late (Ag.sV c (cl t f) f n) then 1 else 0
noncomputable def ln (c : Cl) (t : List Tm) (n : Int) (l : List Fl) : Int := M.sum (l.map (ln1 c t n))
end Pn
end Go.Proofs.YtpanlcnoopmchaaGreatDoor

namespace Go.Proofs.YtpanlcnoopmchaaGreatDoor.V
open Go Go.RowKit
def allz : Obs → Bool
  | [] => true
  | (i, _) :: r => Nat.beq i 0 && allz r
theorem fnd_allz : ∀ {L O : Obs} {i : Nat}, allz L = true → i ≠ 0 → fnd (L ++ O) i = fnd O i
  | [], O, i, _, _ => rfl
  | (j, o) :: r, O, i, h, hi => by
    unfold allz at h
    simp only [Bool.and_eq_true] at h
    have hj := Nat.eq_of_beq_eq_true h.1
    subst hj
    have : Nat.beq 0 i = false := by
      cases hb : Nat.beq 0 i
      · rfl
      · exact absurd (Nat.eq_of_beq_eq_true hb).symm hi
    have ih := fnd_allz (O := O) h.2 hi
    refine Eq.trans ?_ ih
    show fnd ((0, o) :: (r ++ O)) i = _
    conv => lhs; unfold fnd
    rw [this]
theorem fnd_app0 : ∀ {L O : Obs} {i : Nat} {o : Ob}, fnd L i = some o → fnd (L ++ O) i = some o
  | [], O, i, o, h => by cases h
  | (j, u) :: r, O, i, o, h => by
    show fnd ((j, u) :: (r ++ O)) i = some o
    unfold fnd at h ⊢
    cases hb : Nat.beq j i <;> rw [hb] at h
    · exact fnd_app0 h
    · exact h
def onceB : Obs → Bool
  | [] => true
  | (i, _) :: r => (match fnd r i with | none => true | some _ => false) && !Nat.beq i 0 && onceB r
structure Tail (nx : Nat) (O : Obs) : Prop where
  b : obsB nx O = true
  s : ∀ L : Obs, allz L = true → ObsLe (sgm []) (L ++ O) O
theorem once_le {L : Obs} (hL : allz L = true) {A : Obs} : ∀ {O : Obs}, onceB O = true → (∀ i o, fnd O i = some o → fnd A i = some o) → ObsLe (sgm []) (L ++ A) O
  | [], _, _ => trivial
  | (i, o) :: r, h, e => by
    unfold onceB at h
    simp only [Bool.and_eq_true, Bool.not_eq_true'] at h
    obtain ⟨⟨h1, h2⟩, h3⟩ := h
    have hi : i ≠ 0 := fun q => by subst q; rw [Nat.beq_refl] at h2; cases h2
    refine ⟨?_, once_le hL h3 fun j u hj => ?_⟩
    · have t : fnd ((i, o) :: r) i = some o := fnd_top
      have := e i o t
      rw [← fnd_allz (L := L) hL hi] at this
      exact fndK_of this (by rw [renO_nil]; exact ObLe.refl o)
    · refine e j u ?_
      have hne : j ≠ i := fun q => by subst q; rw [hj] at h1; cases h1
      exact fndK_skip hne hj
theorem Tail.of {nx : Nat} {O : Obs} (h1 : obsB nx O = true) (h2 : onceB O = true) : Tail nx O := ⟨h1, fun L hL => once_le hL h2 fun _ _ q => q⟩
theorem Tail.row {nx : Nat} {O L : Obs} (h : Tail nx O) {t s n : Nat} {g g' : Nat → List Value} (hL : allz L = true) (hr : fnd L 0 = some (.row t s n g)) (e : ∀ k, k < n → g k = g' k) : ObsLe (sgm []) (L ++ O) ((0, .row t s n g') :: O) :=
  ⟨fndK_of (fnd_app0 hr) ⟨rfl, rfl, rfl, e⟩, h.s L hL⟩
theorem Tail.bz {nx : Nat} {O : Obs} (h : Tail (nx + 1) O) (t s n : Nat) (g : Nat → List Value) : obsB (nx + 1) ((0, .row t s n g) :: O) = true := by
  have := h.b
  unfold obsB at this ⊢
  rw [List.all_cons, this]
  rfl
structure FEnd (t s n nx : Nat) (O : Obs) (Q : (Nat → List Value) → Prop) (v : SV) (obs : Obs) (nx' : Nat) : Prop where
  h : v = .tup [] ∧ nx' = nx ∧ ∃ L g, obs = L ++ O ∧ allz L = true ∧ fnd L 0 = some (.row t s n g) ∧ Q g
structure FOne (t s n nx : Nat) (O : Obs) (Q : (Nat → List Value) → Prop) (v : SV) (obs : Obs) (nx' : Nat) : Prop where
  h : v = .tup [] ∧ nx' = nx ∧ ∃ g, obs = (0, .row t s n g) :: O ∧ Q g
def Fam (P : Program) (f : FuncId) (args : List SV) (t s n : Nat) (get : Nat → List Value) (nx : Nat) (O : Obs) (Q : (Nat → List Value) → Prop) : Prop :=
  NCall P f args ((0, .row t s n get) :: O) (nx + 1) (FOne t s n (nx + 1) O Q)
theorem NCall.mono {P : Program} {f : FuncId} {args : List SV} {obs : Obs} {nx : Nat} {K K' : SV → Obs → Nat → Prop} (h : NCall P f args obs nx K) (m : ∀ v o n, K v o n → K' v o n) : NCall P f args obs nx K' :=
  ⟨h.b, fun B ρ w xs hC ha => (h.h B ρ w xs hC ha).mono fun e w' ⟨v, o, n, ρ', x, hK, r⟩ => ⟨v, o, n, ρ', x, m _ _ _ hK, r⟩⟩
theorem cut_id {B nx : Nat} {ρ : Rho} {obs : Obs} {w : World} (hC : Cls B ρ obs nx w) : cut nx (via (sgm []) ρ) = ρ := by
  funext i
  unfold cut via
  by_cases h : i < nx
  · rw [if_pos h]; rfl
  · rw [if_neg h, hC.new i (by omega)]
theorem Fam.mk {P : Program} {f : FuncId} {args : List SV} {t s n nx : Nat} {get : Nat → List Value} {O : Obs} {Q : (Nat → List Value) → Prop} (hT : Tail (nx + 1) O)
    (h : NCall P f args ((0, .row t s n get) :: O) (nx + 1) (FEnd t s n (nx + 1) O Q)) : Fam P f args t s n get nx O Q :=
  ⟨h.b, fun B ρ w xs hC ha => (h.h B ρ w xs hC ha).mono fun e w' ⟨v, o, m, ρ', x, hK, hx, he, hv, hC', hb, ho⟩ => by
    obtain ⟨rfl, rfl, L, g, rfl, hL, hr, hQ⟩ := hK.h
    have c := hC'.head (hT.row hL hr fun _ _ => rfl) (hT.bz t s n g) (injB_id _)
    rw [cut_id hC'] at c
    exact ⟨_, _, _, ρ', x, ⟨rfl, rfl, g, rfl, hQ⟩, hx, he, hv, c, hb, ho⟩⟩
theorem Fam.use {P : Program} {f : FuncId} {args : List SV} {t s n nx : Nat} {get : Nat → List Value} {O : Obs} {Q : (Nat → List Value) → Prop} (h : Fam P f args t s n get nx O Q) (hT : Tail (nx + 1) O) {obs : Obs} (L : Obs) {K : SV → Obs → Nat → Prop} {g : Nat → List Value}
    (ho : obs = L ++ O) (hL : allz L = true) (hr : fnd L 0 = some (.row t s n g)) (e : ∀ k, k < n → g k = get k) (hK : ∀ g', Q g' → K (.tup []) ((0, .row t s n g') :: O) (nx + 1)) : NCall P f args obs (nx + 1) K := by
  subst ho
  refine ⟨h.b, fun B ρ w xs hC ha => ?_⟩
  have c := hC.head (hT.row hL hr e) (hT.bz t s n get) (injB_id _)
  rw [cut_id hC] at c
  refine (h.h B ρ w xs c ha).mono ?_
  rintro e' w' ⟨v, o, m, ρ', x, hK', r⟩
  obtain ⟨rfl, rfl, g', rfl, hQ⟩ := hK'.h
  exact ⟨_, _, _, ρ', x, hK g' hQ, r⟩
structure FBack {ι : Type} (nx t s n : Nat) (O : Obs) (chg : ι → Env) (base : Env) (get : ι → Nat → List Value) (μ : ι → Nat) (J : ι → Prop) (m : Nat) (env1 : Env) (obs1 : Obs) : Prop where
  h : ∃ i' l, J i' ∧ μ i' < m ∧ pinB (nx + 1) l = true ∧ injB (sgm l) (nx + 1) = true ∧ EnvLe (sgm l) env1 (chg i' ++ base) ∧ ObsLe (sgm l) obs1 ((0, .row t s n (get i')) :: O)
theorem FBack.at_ {ι : Type} {nx t s n : Nat} {O : Obs} {chg : ι → Env} {base : Env} {get : ι → Nat → List Value} {μ : ι → Nat} {J : ι → Prop} {m : Nat} {env1 : Env} {obs1 : Obs} (hT : Tail (nx + 1) O) (i' : ι) (L : Obs) {g : Nat → List Value} (h1 : J i') (h2 : μ i' < m) (h3 : EnvLe (sgm []) env1 (chg i' ++ base))
    (h4 : obs1 = L ++ O) (h5 : allz L = true) (h6 : fnd L 0 = some (.row t s n g)) (h7 : ∀ k, k < n → g k = get i' k) : FBack nx t s n O chg base get μ J m env1 obs1 := by
  subst h4
  exact ⟨⟨i', [], h1, h2, rfl, injB_id _, h3, hT.row h5 h6 h7⟩⟩
theorem NLoop.fam {ws : List Nat} {nx : Nat} {body : Env → Obs → Nat → Kon → Prop} {env : Env} {obs : Obs} {K : Kon} {O : Obs} (hT : Tail (nx + 1) O) {ι : Type} (chg : ι → Env) (base : Env) (t s n : Nat) (get : ι → Nat → List Value) (μ : ι → Nat) (J : ι → Prop) (i0 : ι) (h0 : J i0)
    (L : Obs) {g : Nat → List Value} (ho : obs = L ++ O) (hL : allz L = true) (hr : fnd L 0 = some (.row t s n g)) (e : ∀ k, k < n → g k = get i0 k) (he : EnvLe (sgm []) env (chg i0 ++ base)) (hb : ∀ i, envB (nx + 1) (chg i) = true) (hb2 : envB (nx + 1) base = true)
    (h : ∀ i, J i → body (chg i ++ base) ((0, .row t s n (get i)) :: O) (nx + 1) fun e env1 obs1 nx1 => match e with
      | .nrm => FBack nx t s n O chg base get μ J (μ i) env1 obs1
      | .exit n => K (.exit n) env1 obs1 nx1
      | .ret => K .ret env1 obs1 nx1) : NLoop ws (nx + 1) body env obs (nx + 1) K := by
  subst ho
  refine ⟨⟨ι, fun i => (chg i ++ base, (0, .row t s n (get i)) :: O), μ, J, i0, nx + 1, Nat.le_refl _, h0, injB_id _, he, hT.row hL hr e, fun i => ⟨?_, hT.bz t s n _⟩, fun i hi => ?_⟩⟩
  · simp only [envB, List.all_append, Bool.and_eq_true]; exact ⟨hb i, hb2⟩
  · have := h i hi
    refine cast ?_ this
    congr 1
    funext e env1 obs1 nx1
    cases e
    · apply propext
      constructor
      · rintro ⟨q⟩; exact q
      · intro q; exact ⟨q⟩
    · rfl
    · rfl
theorem Svs.ren_ {σ : Nat → Nat} {ρ : Rho} {nx : Nat} : ∀ {l : List SV} {xs : List Value}, argB nx l = true → Svs ρ (l.map (renS σ)) xs → Svs (V.cut nx (via σ ρ)) l xs
  | [], _, _, h => h
  | v :: l, _, hb, ⟨x, r, e, hv, hr⟩ => by
    unfold argB at hb
    simp only [List.all_cons, Bool.and_eq_true] at hb
    refine ⟨x, r, e, ?_, Svs.ren_ (l := l) (by unfold argB; exact hb.2) hr⟩
    cases v with
    | one a => exact At.is_cut (a := a) hb.1 (SV.is_via (v := .one a) hb.1 hv)
    | agg c =>
      obtain ⟨cs, hc, e⟩ := hv
      exact ⟨cs, hc.via.cut hb.1, e⟩
    | tup l => exact hv.elim
theorem Fam.call {P : Program} {f : FuncId} {args : List SV} {t s n nx : Nat} {get : Nat → List Value} {O : Obs} {Q : (Nat → List Value) → Prop} (h : Fam P f args t s n get nx O Q) (hT : Tail (nx + 1) O) {obs : Obs} {args' : List SV} {K : SV → Obs → Nat → Prop} (l : List (Nat × Nat)) (obs2 : (Nat → List Value) → Obs)
    (ha : args' = args.map (renS (sgm l))) (hab : argB (nx + 1) args = true) (hi : injB (sgm l) (nx + 1) = true) (hinv : ∀ i, i < nx + 1 → sgm l i < nx + 1 ∧ sgm l (sgm l i) = i) (ho : ObsLe (sgm l) obs ((0, .row t s n get) :: O)) (hb2 : ∀ g', obsB (nx + 1) (obs2 g') = true)
    (ho2 : ∀ g', ObsLe (sgm l) ((0, .row t s n g') :: O) (obs2 g')) (hK : ∀ g', Q g' → K (.tup []) (obs2 g') (nx + 1)) : NCall P f args' obs (nx + 1) K := by
  subst ha
  refine ⟨h.b, fun B ρ w xs hC hxs => ?_⟩
  have c := hC.head ho (hT.bz t s n get) hi
  refine (h.h B _ w xs c (Svs.ren_ hab hxs)).mono ?_
  rintro e' w' ⟨v, o, m, ρ', x, hK', hx, he, hv, hC', hb, hoth⟩
  obtain ⟨rfl, rfl, g', rfl, hQ⟩ := hK'.h
  have c2 := hC'.head (ho2 g') (hb2 g') hi
  refine ⟨_, _, _, _, x, hK g' hQ, fun i y hy => ?_, he, ?_, c2, hb, hoth⟩
  · have hi' : i < nx + 1 := by
      rcases Nat.lt_or_ge i (nx + 1) with q | q
      · exact q
      · rw [hC.new i q] at hy; cases hy
    obtain ⟨q1, q2⟩ := hinv i hi'
    rw [cut_lt hi']
    refine hx _ _ ?_
    rw [cut_lt q1]
    unfold via
    rw [q2]
    exact hy
  · exact hv
end Go.Proofs.YtpanlcnoopmchaaGreatDoor.V

namespace Go.Proofs.YtpanlcnoopmchaaGreatDoor
open Go Go.Sort
set_option linter.unusedSectionVars false
namespace St
variable {α : Type} [Inhabited α]
def Sw (a b n : Nat) (d d' : Array α) : Prop :=
  d'.size = d.size ∧ (∀ k, (k < a ∨ a + n ≤ k) → (k < b ∨ b + n ≤ k) → d'[k]! = d[k]!) ∧ (∀ i, i < n → d'[a + i]! = d[b + i]! ∧ d'[b + i]! = d[a + i]!)
theorem Sw.zero (a b : Nat) (d : Array α) : Sw a b 0 d d := ⟨rfl, fun _ _ _ => rfl, fun i h => absurd h (by omega)⟩
theorem Sw.succ {a b n : Nat} {d d' : Array α} (h : Sw a b n d d') (h1 : a + n + 1 ≤ b) (h2 : b + n < d.size) : Sw a b (n + 1) d (swp d' (a + n) (b + n)) := by
  obtain ⟨s, o, e⟩ := h
  refine ⟨by rw [size_swp, s], fun k k1 k2 => ?_, fun i hi => ?_⟩
  · rw [swp_other _ _ _ _ (by omega) (by omega)]
    exact o k (by omega) (by omega)
  · by_cases z : i = n
    · subst z
      rw [swp_left _ _ _ (by omega) (by omega), swp_right _ _ _ (by omega)]
      exact ⟨o _ (by omega) (by omega), o _ (by omega) (by omega)⟩
    · rw [swp_other _ _ _ _ (by omega) (by omega), swp_other _ _ _ _ (by omega) (by omega)]
      exact e i (by omega)
def Rot (a m b : Nat) (d d' : Array α) : Prop :=
  d'.size = d.size ∧ (∀ k, k < a ∨ b ≤ k → d'[k]! = d[k]!) ∧ (∀ k, a ≤ k → k < a + (b - m) → d'[k]! = d[k + (m - a)]!) ∧ (∀ k, a + (b - m) ≤ k → k < b → d'[k]! = d[k - (b - m)]!)
theorem at_eq {d : Array α} {i j : Nat} (h : i = j) : d[i]! = d[j]! := by rw [h]
theorem Sw.left {a b n k : Nat} {d d' : Array α} (h : Sw a b n d d') (h1 : a ≤ k) (h2 : k < a + n) : d'[k]! = d[b + (k - a)]! := by
  have := (h.2.2 (k - a) (by omega)).1
  rwa [show a + (k - a) = k by omega] at this
theorem Sw.right {a b n k : Nat} {d d' : Array α} (h : Sw a b n d d') (h1 : b ≤ k) (h2 : k < b + n) : d'[k]! = d[a + (k - b)]! := by
  have := (h.2.2 (k - b) (by omega)).2
  rwa [show b + (k - b) = k by omega] at this
theorem rot_end {m i : Nat} {d d' : Array α} (hi : i ≤ m) (h : Sw (m - i) m i d d') : Rot (m - i) m (m + i) d d' := by
  refine ⟨h.1, fun k hk => h.2.1 k (by omega) (by omega), fun k h1 h2 => ?_, fun k h1 h2 => ?_⟩
  · rw [h.left h1 (by omega)]
    all_goals exact at_eq (by omega)
  · rw [h.right (by omega) (by omega)]
    all_goals exact at_eq (by omega)
theorem rot_left {m i j : Nat} {d d1 d' : Array α} (hi : i ≤ m) (hj : 0 < j) (hij : j < i) (h : Sw (m - i) m j d d1) (r : Rot (m - (i - j)) m (m + j) d1 d') : Rot (m - i) m (m + j) d d' := by
  obtain ⟨r1, r2, r3, r4⟩ := r
  refine ⟨by rw [r1, h.1], fun k hk => ?_, fun k h1 h2 => ?_, fun k h1 h2 => ?_⟩
  · rw [r2 k (by omega), h.2.1 k (by omega) (by omega)]
  · rw [r2 k (by omega), h.left h1 (by omega)]
    all_goals exact at_eq (by omega)
  · by_cases z : k < m - (i - j) + (m + j - m)
    · rw [r3 k (by omega) z, h.right (by omega) (by omega)]
      all_goals exact at_eq (by omega)
    · rw [r4 k (by omega) (by omega), h.2.1 _ (by omega) (by omega)]
      all_goals exact at_eq (by omega)
theorem rot_right {m i j : Nat} {d d1 d' : Array α} (hi : i ≤ m) (hi0 : 0 < i) (hij : i < j) (h : Sw (m - i) (m + j - i) i d d1) (r : Rot (m - i) m (m + (j - i)) d1 d') : Rot (m - i) m (m + j) d d' := by
  obtain ⟨r1, r2, r3, r4⟩ := r
  refine ⟨by rw [r1, h.1], fun k hk => ?_, fun k h1 h2 => ?_, fun k h1 h2 => ?_⟩
  · rw [r2 k (by omega), h.2.1 k (by omega) (by omega)]
  · by_cases z : k < m - i + (m + (j - i) - m)
    · rw [r3 k h1 z]
      by_cases y : k + (m - (m - i)) < m + j - i
      · rw [h.2.1 _ (by omega) (by omega)]
      · rw [h.right (by omega) (by omega)]; omega
    · rw [r4 k (by omega) (by omega), h.left (by omega) (by omega)]
      all_goals exact at_eq (by omega)
  · rw [r2 k (by omega), h.right (by omega) (by omega)]
    all_goals exact at_eq (by omega)
theorem map_shift (f : Nat → α) (s a n : Nat) : (List.range' a n).map (fun k => f (k + s)) = (List.range' (a + s) n).map f := by
  apply List.ext_getElem
  · simp
  · intro i h1 h2
    simp only [List.getElem_map, List.getElem_range']
    congr 1
    omega
theorem Rot.perm {a m b : Nat} {d d' : Array α} (h : Rot a m b d d') (h1 : a ≤ m) (h2 : m ≤ b) (hb : b ≤ d.size) : PermIn a b d d' := by
  obtain ⟨r1, r2, r3, r4⟩ := h
  refine ⟨r1, r2, ?_⟩
  rw [extract_toList d' a b (by omega), extract_toList d a b hb]
  have e1 : List.range' a (b - a) = List.range' a (b - m) ++ List.range' (a + (b - m)) (m - a) := by
    rw [List.range'_append_1]; congr 1; omega
  have e2 : List.range' a (b - a) = List.range' a (m - a) ++ List.range' m (b - m) := by
    have := List.range'_append_1 (s := a) (m := m - a) (n := b - m)
    rw [show a + (m - a) = m by omega, show m - a + (b - m) = b - a by omega] at this
    exact this.symm
  conv => lhs; rw [e1, List.map_append]
  conv => rhs; rw [e2, List.map_append]
  have f1 : (List.range' a (b - m)).map (fun i => d'[i]!) = (List.range' m (b - m)).map (fun i => d[i]!) := by
    have q := map_shift (fun i => d[i]!) (m - a) a (b - m)
    rw [show a + (m - a) = m by omega] at q
    rw [← q]
    exact List.map_congr_left fun k hk => by
      rw [List.mem_range'_1] at hk
      exact r3 k hk.1 hk.2
  have f2 : (List.range' (a + (b - m)) (m - a)).map (fun i => d'[i]!) = (List.range' a (m - a)).map (fun i => d[i]!) := by
    have q := map_shift (fun i => d'[i]!) (b - m) a (m - a)
    rw [← q]
    exact List.map_congr_left fun k hk => by
      rw [List.mem_range'_1] at hk
      rw [r4 (k + (b - m)) (by omega) (by omega)]
      exact at_eq (by omega)
  rw [f1, f2]
  exact List.perm_append_comm
theorem Rot.refl_l {m b : Nat} {d : Array α} : Rot m m b d d := ⟨rfl, fun _ _ => rfl, fun k h1 h2 => at_eq (by omega), fun k h1 h2 => absurd h1 (by omega)⟩
theorem Rot.refl_r {a m : Nat} {d : Array α} : Rot a m m d d := ⟨rfl, fun _ _ => rfl, fun k h1 h2 => absurd h1 (by omega), fun k h1 h2 => at_eq (by omega)⟩
theorem Rot.up {a k : Nat} {d d' : Array α} (h : Rot a (a + 1) (k + 1) d d') (h1 : a ≤ k) (h2 : k + 1 < d.size) : Rot a (a + 1) (k + 2) d (swp d' k (k + 1)) := by
  obtain ⟨r1, r2, r3, r4⟩ := h
  refine ⟨by rw [size_swp, r1], fun q hq => ?_, fun q q1 q2 => ?_, fun q q1 q2 => ?_⟩
  · rw [swp_other _ _ _ _ (by omega) (by omega)]
    exact r2 q (by omega)
  · by_cases z : q = k
    · subst z
      rw [swp_left _ _ _ (by omega) (by omega), r2 _ (by omega)]
      exact at_eq (by omega)
    · rw [swp_other _ _ _ _ (by omega) (by omega)]
      exact r3 q q1 (by omega)
  · obtain rfl : q = k + 1 := by omega
    rw [swp_right _ _ _ (by omega)]
    by_cases z : a < k
    · rw [r4 k (by omega) (by omega)]
      exact at_eq (by omega)
    · rw [r4 k (by omega) (by omega)]
      exact at_eq (by omega)
theorem Rot.down {i k m : Nat} {d d' : Array α} (h : Rot (k + 1) m (m + 1) d d') (h1 : k < m) (h2 : m < d.size) : Rot k m (m + 1) d (swp d' (k + 1) k) := by
  obtain ⟨r1, r2, r3, r4⟩ := h
  refine ⟨by rw [size_swp, r1], fun q hq => ?_, fun q q1 q2 => ?_, fun q q1 q2 => ?_⟩
  · rw [swp_other _ _ _ _ (by omega) (by omega)]
    exact r2 q (by omega)
  · obtain rfl : q = k := by omega
    rw [swp_right _ _ _ (by omega)]
    by_cases z : q + 1 < m
    · rw [r3 (q + 1) (by omega) (by omega)]
      exact at_eq (by omega)
    · rw [r3 (q + 1) (by omega) (by omega)]
      exact at_eq (by omega)
  · by_cases z : q = k + 1
    · subst z
      rw [swp_left _ _ _ (by omega) (by omega), r2 _ (by omega)]
      exact at_eq (by omega)
    · rw [swp_other _ _ _ _ (by omega) (by omega), r4 q (by omega) (by omega)]
variable {lt : α → α → Bool}
theorem Rot.one {a m b i : Nat} {d d' : Array α} (h : Rot a m b d d') (h1 : a ≤ i) (h2 : i < a + (b - m)) : d'[i]! = d[i + (m - a)]! := h.2.2.1 i h1 h2
theorem Rot.two {a m b i : Nat} {d d' : Array α} (h : Rot a m b d d') (h1 : a + (b - m) ≤ i) (h2 : i < b) : d'[i]! = d[i - (b - m)]! := h.2.2.2 i h1 h2
theorem Rot.off {a m b i : Nat} {d d' : Array α} (h : Rot a m b d d') (h1 : i < a ∨ b ≤ i) : d'[i]! = d[i]! := h.2.1 i h1
theorem sle (S : SWO lt) {d : Array α} {lo hi x y : Nat} (h : SortedIn lt lo hi d) (q1 : lo ≤ x) (q2 : x ≤ y) (q3 : y < hi) : lt d[y]! d[x]! = false := by
  rcases Nat.lt_or_ge x y with z | z
  · exact h _ _ q1 z q3
  · obtain rfl : x = y := by omega
    exact S.irrefl _
theorem cross (S : SWO lt) {a s m e b : Nat} {d d1 : Array α} (r : Rot s m e d d1) (asl : a ≤ s) (sm : s ≤ m) (me : m ≤ e) (eb : e ≤ b) (H1 : SortedIn lt a m d) (H2 : SortedIn lt m b d)
    (C1 : a < s → e < b → lt d[e]! d[s - 1]! = false) (C2 : m < e → s < m → lt d[e - 1]! d[s]! = true) :
    ∀ i j, a ≤ i → i < s + (e - m) → s + (e - m) ≤ j → j < b → lt d1[j]! d1[i]! = false := by
  intro i j i1 i2 j1 j2
  have le : ∀ {lo hi x y : Nat}, SortedIn lt lo hi d → lo ≤ x → x ≤ y → y < hi → lt d[y]! d[x]! = false := fun h q1 q2 q3 => sle S h q1 q2 q3
  by_cases i3 : i < s
  · rw [r.off (i := i) (by omega)]
    by_cases j3 : j < e
    · rw [r.two (i := j) j1 j3]
      exact H1 _ _ i1 (by omega) (by omega)
    · rw [r.off (i := j) (by omega)]
      refine S.ntrans _ _ _ (le H2 (x := e) (by omega) (by omega) j2) (S.ntrans _ _ _ (C1 (by omega) (by omega)) (le H1 i1 (by omega) (by omega)))
  · rw [r.one (i := i) (by omega) i2]
    by_cases j3 : j < e
    · rw [r.two (i := j) j1 j3]
      have c := SWO.asymmA S (C2 (by omega) (by omega))
      exact S.ntrans _ _ _ (le H1 (x := s) asl (by omega) (by omega)) (S.ntrans _ _ _ c (le H2 (y := e - 1) (by omega) (by omega) (by omega)))
    · rw [r.off (i := j) (by omega)]
      exact H2 _ _ (by omega) (by omega) j2
theorem halves {a c b : Nat} {d1 d2 d3 : Array α} (ac : a ≤ c) (cb : c ≤ b) (hb : b ≤ d1.size) (X : ∀ i j, a ≤ i → i < c → c ≤ j → j < b → lt d1[j]! d1[i]! = false)
    (P2 : PermIn a c d1 d2) (S2 : SortedIn lt a c d2) (P3 : PermIn c b d2 d3) (S3 : SortedIn lt c b d3) : PermIn a b d1 d3 ∧ SortedIn lt a b d3 := by
  have z2 : d2.size = d1.size := P2.1
  refine ⟨permIn_trans _ _ _ _ _ (permIn_mono _ _ _ _ a b (Nat.le_refl _) cb (by omega) P2) (permIn_mono _ _ _ _ a b ac (Nat.le_refl _) (by omega) P3), fun i j i1 ij j2 => ?_⟩
  by_cases jc : j < c
  · rw [P3.2.1 j (by omega), P3.2.1 i (by omega)]
    exact S2 i j i1 ij jc
  by_cases ic : c ≤ i
  · exact S3 i j ic ij j2
  · -- i in the first half, j in the second
    have all2 : ∀ j, c ≤ j → j < b → lt d3[j]! d3[i]! = false := by
      rw [P3.2.1 i (by omega)]
      refine permIn_all d2 d3 c b (fun x => lt x d2[i]! = false) (by omega) P3 fun j q1 q2 => ?_
      rw [P2.2.1 j (by omega)]
      refine permIn_all d1 d2 a c (fun x => lt d1[j]! x = false) (by omega) P2 (fun i p1 p2 => X i j p1 p2 q1 q2) i i1 (by omega)
    exact all2 j (by omega) j2
theorem caseA (S : SWO lt) {a i b : Nat} {d d' : Array α} (r : Rot a (a + 1) i d d') (i1 : a + 1 ≤ i) (i2 : i ≤ b) (hb : b ≤ d.size) (H2 : SortedIn lt (a + 1) b d) (C1 : i = a + 1 ∨ lt d[i - 1]! d[a]! = true) (C2 : i = b ∨ lt d[i]! d[a]! = false) : PermIn a b d d' ∧ SortedIn lt a b d' := by
  have X := cross S (a := a) (b := b) r (Nat.le_refl _) (by omega) i1 i2 (fun p q h1 h2 h3 => absurd h3 (by omega)) H2 (fun h _ => absurd h (by omega)) (fun h1 _ => C1.resolve_left (by omega))
  have hv := halves (lt := lt) (a := a) (c := a + (i - (a + 1))) (b := b) (by omega) (by omega) (by rw [r.1]; exact hb) X (permIn_refl d' _ _) (fun p q h1 h2 h3 => ?_) (permIn_refl d' _ _) (fun p q h1 h2 h3 => ?_)
  · exact ⟨permIn_mono _ _ _ _ a b (Nat.le_refl _) i2 hb (r.perm (by omega) i1 (by omega)), hv.2⟩
  · rw [r.one (i := p) h1 (by omega), r.one (i := q) (by omega) (by omega)]
    exact H2 _ _ (by omega) (by omega) (by omega)
  · rw [r.off (i := q) (by omega)]
    by_cases z : p < i
    · rw [r.two (i := p) h1 z, at_eq (d := d) (show p - (i - (a + 1)) = a by omega)]
      exact S.ntrans _ _ _ (sle S H2 (x := i) (by omega) (by omega) h3) (C2.resolve_left (by omega))
    · rw [r.off (i := p) (by omega)]
      exact H2 _ _ (by omega) h2 h3
theorem caseB (S : SWO lt) {a i m : Nat} {d d' : Array α} (r : Rot i m (m + 1) d d') (i1 : a ≤ i) (i2 : i ≤ m) (hb : m + 1 ≤ d.size) (H1 : SortedIn lt a m d) (C1 : i = a ∨ lt d[m]! d[i - 1]! = false) (C2 : i = m ∨ lt d[m]! d[i]! = true) : PermIn a (m + 1) d d' ∧ SortedIn lt a (m + 1) d' := by
  have X := cross S (a := a) (b := m + 1) r i1 i2 (by omega) (Nat.le_refl _) H1 (fun p q h1 h2 h3 => absurd h3 (by omega)) (fun _ h => absurd h (by omega)) (fun _ h2 => by rw [Nat.add_sub_cancel]; exact C2.resolve_left (by omega))
  have hv := halves (lt := lt) (a := a) (c := i + (m + 1 - m)) (b := m + 1) (by omega) (by omega) (by rw [r.1]; exact hb) X (permIn_refl d' _ _) (fun p q h1 h2 h3 => ?_) (permIn_refl d' _ _) (fun p q h1 h2 h3 => ?_)
  · exact ⟨permIn_mono _ _ _ _ a (m + 1) i1 (Nat.le_refl _) hb (r.perm i2 (by omega) hb), hv.2⟩
  · by_cases z : q < i
    · rw [r.off (i := p) (by omega), r.off (i := q) (by omega)]
      exact H1 _ _ h1 h2 (by omega)
    · rw [r.off (i := p) (by omega), r.one (i := q) (by omega) (by omega), at_eq (d := d) (show q + (m - i) = m by omega)]
      exact S.ntrans _ _ _ (C1.resolve_left (by omega)) (sle S H1 h1 (by omega) (by omega))
  · rw [r.two (i := p) (by omega) (by omega), r.two (i := q) (by omega) h3]
    exact H1 _ _ (by omega) (by omega) (by omega)
theorem runs {a s m e b : Nat} {d d1 : Array α} (r : Rot s m e d d1) (asl : a ≤ s) (sm : s ≤ m) (me : m ≤ e) (eb : e ≤ b) (H1 : SortedIn lt a m d) (H2 : SortedIn lt m b d) :
    SortedIn lt a s d1 ∧ SortedIn lt s (s + (e - m)) d1 ∧ SortedIn lt (s + (e - m)) e d1 ∧ SortedIn lt e b d1 := by
  refine ⟨fun p q h1 h2 h3 => ?_, fun p q h1 h2 h3 => ?_, fun p q h1 h2 h3 => ?_, fun p q h1 h2 h3 => ?_⟩
  · rw [r.off (i := p) (by omega), r.off (i := q) (by omega)]
    exact H1 _ _ h1 h2 (by omega)
  · rw [r.one (i := p) h1 (by omega), r.one (i := q) (by omega) h3]
    exact H2 _ _ (by omega) (by omega) (by omega)
  · rw [r.two (i := p) h1 (by omega), r.two (i := q) (by omega) h3]
    exact H1 _ _ (by omega) (by omega) (by omega)
  · rw [r.off (i := p) (by omega), r.off (i := q) (by omega)]
    exact H2 _ _ (by omega) h2 h3
theorem tests {a s m e b : Nat} {d d1 : Array α} {p : α → α → Prop} (r : Rot s m e d d1) (asl : a ≤ s) (sm : s ≤ m) (me : m ≤ e) (eb : e ≤ b) (H : ∀ i j, a ≤ i → i < m → m ≤ j → j < b → p d[j]! d[i]!) :
    (∀ i j, a ≤ i → i < s → s ≤ j → j < s + (e - m) → p d1[j]! d1[i]!) ∧ (∀ i j, s + (e - m) ≤ i → i < e → e ≤ j → j < b → p d1[j]! d1[i]!) := by
  refine ⟨fun i j h1 h2 h3 h4 => ?_, fun i j h1 h2 h3 h4 => ?_⟩
  · rw [r.off (i := i) (by omega), r.one (i := j) h3 h4]
    exact H _ _ h1 (by omega) (by omega) (by omega)
  · rw [r.two (i := i) h1 h2, r.off (i := j) (by omega)]
    exact H _ _ (by omega) (by omega) (by omega) h4
theorem sorted_one {a s c : Nat} {d : Array α} (h1 : SortedIn lt a s d) (h2 : SortedIn lt s c d) (asl : a ≤ s) (sc : s ≤ c) (n : ¬ (a < s ∧ s < c)) : SortedIn lt a c d := by
  by_cases z : a = s
  · subst z; exact h2
  · obtain rfl : s = c := by omega
    exact h1
theorem sorted_perm {lo hi a b : Nat} {d d' : Array α} (h : SortedIn lt lo hi d) (P : PermIn a b d d') (o : hi ≤ a ∨ b ≤ lo) : SortedIn lt lo hi d' := fun i j h1 h2 h3 => by
  rw [P.2.1 i (by omega), P.2.1 j (by omega)]
  exact h i j h1 h2 h3
theorem ins_perm (l : α → α → Bool) (a : Nat) : ∀ (j : Nat) (d : Array α), a ≤ j → j < d.size → PermIn a (j + 1) d (insInner l a j d)
  | 0, d, h1, h2 => permIn_refl _ _ _
  | j + 1, d, h1, h2 => by
    unfold insInner
    split
    · rename_i c
      simp only [Bool.and_eq_true, decide_eq_true_eq] at c
      have i := ins_perm l a j (swp d (j + 1) j) (by omega) (by rw [size_swp]; omega)
      exact permIn_trans _ _ _ _ _ (swp_permIn d a (j + 2) (j + 1) j (by omega) (by omega) (by omega) (by omega) (by omega)) (permIn_mono _ _ _ _ _ _ (Nat.le_refl _) (by omega) (by rw [size_swp]; omega) i)
    · exact permIn_refl _ _ _
theorem ins_inner {l0 l1 : α → α → Bool} (a : Nat) : ∀ (j : Nat) (d : Array α), j < d.size → (∀ k, a ≤ k → k < j → l0 d[j]! d[k]! = l1 d[j]! d[k]!) → insInner l0 a j d = insInner l1 a j d
  | 0, d, _, _ => rfl
  | j + 1, d, h, e => by
    unfold insInner
    by_cases c : a ≤ j
    · rw [e j c (by omega)]
      split
      · refine ins_inner a j _ (by rw [size_swp]; omega) fun k k1 k2 => ?_
        rw [swp_right _ _ _ (by omega), swp_other _ _ _ _ (by omega) (by omega)]
        exact e k k1 (by omega)
      · rfl
    · have n : decide (j + 1 > a) = false := by simp; omega
      rw [n]
      rfl
theorem ins_outer {l0 l1 : α → α → Bool} (a b : Nat) : ∀ (n i : Nat) (d : Array α), b - i ≤ n → a ≤ i → b ≤ d.size → (∀ p q, i ≤ p → p < b → a ≤ q → q < p → l0 d[p]! d[q]! = l1 d[p]! d[q]!) → insOuter l0 a b i d = insOuter l1 a b i d
  | 0, i, d, h1, h2, h3, e => by
    unfold insOuter
    rw [if_neg (by omega), if_neg (by omega)]
  | n + 1, i, d, h1, h2, h3, e => by
    unfold insOuter
    by_cases c : i < b
    · rw [if_pos c, if_pos c, ins_inner (l0 := l0) (l1 := l1) a i d (by omega) (fun k k1 k2 => e i k (Nat.le_refl _) c k1 k2)]
      have P := ins_perm l1 a i d h2 (by omega)
      refine ins_outer a b n (i + 1) _ (by omega) (by omega) (by rw [P.1]; exact h3) fun p q p1 p2 q1 q2 => ?_
      rw [P.2.1 p (by omega)]
      by_cases z : q < i + 1
      · exact permIn_all _ _ a (i + 1) (fun x => l0 d[p]! x = l1 d[p]! x) (by omega) P (fun q s1 s2 => e p q (by omega) p2 s1 (by omega)) q q1 z
      · rw [P.2.1 q (by omega)]
        exact e p q (by omega) p2 q1 q2
    · rw [if_neg c, if_neg c]
theorem ins_eq {l0 l1 : α → α → Bool} {a b : Nat} {d : Array α} (hb : b ≤ d.size) (e : ∀ p q, p < b → a ≤ q → q < p → l0 d[p]! d[q]! = l1 d[p]! d[q]!) : insertionSort l0 d a b = insertionSort l1 d a b :=
  ins_outer a b (b - (a + 1)) (a + 1) d (Nat.le_refl _) (by omega) hb fun p q p1 p2 q1 q2 => e p q p2 q1 q2
theorem inner_go {l : α → α → Bool} {a j : Nat} {d : Array α} (hj : a < j) (hl : l d[j]! d[j - 1]! = true) : insInner l a j d = insInner l a (j - 1) (swp d j (j - 1)) := by
  obtain ⟨k, rfl⟩ : ∃ k, j = k + 1 := ⟨j - 1, by omega⟩
  rw [insInner]
  simp only [Nat.add_sub_cancel] at hl ⊢
  simp [hj, hl]
theorem inner_stop {l : α → α → Bool} {a j : Nat} {d : Array α} (h : j ≤ a ∨ l d[j]! d[j - 1]! = false) : insInner l a j d = d := by
  cases j with
  | zero => rw [insInner]
  | succ k =>
    rw [insInner]
    rcases h with h | h
    · rw [if_neg (by simp; omega)]
    · simp only [Nat.add_sub_cancel] at h
      rw [if_neg (by simp [h])]
theorem outer_go {l : α → α → Bool} {a b i : Nat} {d : Array α} (h : i < b) : insOuter l a b i d = insOuter l a b (i + 1) (insInner l a i d) := by rw [insOuter, if_pos h]
theorem outer_stop {l : α → α → Bool} {a b i : Nat} {d : Array α} (h : ¬ i < b) : insOuter l a b i d = d := by rw [insOuter, if_neg h]
variable (tg : α → Nat) (lt : α → α → Bool)
structure Good (lo hi : Nat) (d : Array α) : Prop where
  t : ∀ i, lo ≤ i → i < hi → lo ≤ tg d[i]! ∧ tg d[i]! < hi
  s : SortedIn lt lo hi d
def To (bs e : Nat) (d : Array α) : Prop := ∀ k, k * bs < e → Good tg lt (k * bs) (min (k * bs + bs) e) d
def Fr (bs a n : Nat) (d : Array α) : Prop := ∀ k, a + k * bs < n → Good tg lt (a + k * bs) (min (a + k * bs + bs) n) d
variable {tg lt}
theorem Good.same {lo hi : Nat} {d d' : Array α} (h : Good tg lt lo hi d) (e : ∀ i, lo ≤ i → i < hi → d'[i]! = d[i]!) : Good tg lt lo hi d' :=
  ⟨fun i h1 h2 => by rw [e i h1 h2]; exact h.t i h1 h2, fun i j h1 h2 h3 => by rw [e i h1 (by omega), e j (by omega) h3]; exact h.s i j h1 h2 h3⟩
theorem Good.of_perm {lo hi : Nat} {d d' : Array α} (hb : hi ≤ d.size) (t : ∀ i, lo ≤ i → i < hi → lo ≤ tg d[i]! ∧ tg d[i]! < hi) (P : PermIn lo hi d d') (s : SortedIn lt lo hi d') : Good tg lt lo hi d' :=
  ⟨permIn_all d d' lo hi (fun x => lo ≤ tg x ∧ tg x < hi) hb P t, s⟩
theorem To.zero (bs : Nat) (d : Array α) : To tg lt bs 0 d := fun k h => absurd h (by omega)
theorem To.same {bs e : Nat} {d d' : Array α} (h : To tg lt bs e d) (q : ∀ i, i < e → d'[i]! = d[i]!) : To tg lt bs e d' := fun k hk => (h k hk).same fun i h1 h2 => q i (by omega)
theorem Fr.same {bs a n : Nat} {d d' : Array α} (h : Fr tg lt bs a n d) (q : ∀ i, a ≤ i → d'[i]! = d[i]!) : Fr tg lt bs a n d' := fun k hk => (h k hk).same fun i h1 h2 => q i (by omega)
theorem To.snoc {bs e n K : Nat} {d : Array α} (h : To tg lt bs e d) (he : e = K * bs) (hb : 0 < bs) (g : Good tg lt e (min (e + bs) n) d) (hn : e < n) : To tg lt bs (min (e + bs) n) d := fun k hk => by
  rcases Nat.lt_trichotomy k K with z | z | z
  · have : k * bs + bs ≤ K * bs := by
      have := Nat.mul_le_mul_right bs (show k + 1 ≤ K by omega)
      rwa [Nat.succ_mul] at this
    have q := h k (by omega)
    rwa [show min (k * bs + bs) (min (e + bs) n) = min (k * bs + bs) e by omega]
  · subst z
    rw [← he]
    rwa [show min (e + bs) (min (e + bs) n) = min (e + bs) n by omega]
  · have := Nat.mul_le_mul_right bs (show K + 1 ≤ k by omega)
    rw [Nat.succ_mul] at this
    omega
theorem Fr.head {bs a n : Nat} {d : Array α} (h : Fr tg lt bs a n d) (hn : a < n) : Good tg lt a (min (a + bs) n) d := by
  have := h 0 (by rw [Nat.zero_mul]; omega)
  rwa [Nat.zero_mul, Nat.add_zero] at this
theorem Fr.tail {bs a n : Nat} {d : Array α} (h : Fr tg lt bs a n d) : Fr tg lt bs (a + bs) n d := fun k hk => by
  have e : a + (k + 1) * bs = a + bs + k * bs := by rw [Nat.succ_mul]; omega
  have := h (k + 1) (by omega)
  rwa [e] at this
theorem Fr.of_to {bs n : Nat} {d : Array α} (h : To tg lt bs n d) : Fr tg lt bs 0 n d := fun k hk => by
  rw [Nat.zero_add] at hk ⊢
  exact h k hk
theorem To.all {bs n : Nat} {d : Array α} (h : To tg lt bs n d) (hn : n ≤ bs) : SortedIn lt 0 n d := by
  rcases Nat.eq_zero_or_pos n with z | z
  · subst z
    exact fun i j h1 h2 h3 => absurd h3 (by omega)
  · have := (h 0 (by rw [Nat.zero_mul]; exact z)).s
    rwa [Nat.zero_mul, show min (0 + bs) n = n by omega] at this
theorem To.push {bs e K : Nat} {d : Array α} (h : To tg lt bs e d) (he : e = K * bs) (hb : 0 < bs) (g : Good tg lt e (e + bs) d) : To tg lt bs (e + bs) d := by
  have := h.snoc (n := e + bs) he hb (by rwa [Nat.min_self]) (by omega)
  rwa [Nat.min_self] at this
theorem To.last {bs e n K : Nat} {d : Array α} (h : To tg lt bs e d) (he : e = K * bs) (hb : 0 < bs) (g : Good tg lt e n d) (h1 : e < n) (h2 : n ≤ e + bs) : To tg lt bs n d := by
  have := h.snoc (n := n) he hb (by rwa [show min (e + bs) n = n by omega]) h1
  rwa [show min (e + bs) n = n by omega] at this
theorem Good.merge {a m b : Nat} {d d' : Array α} (am : a ≤ m) (mb : m ≤ b) (hb : b ≤ d.size) (G1 : Good tg lt a m d) (G2 : Good tg lt m b d) (P : PermIn a b d d') (s : SortedIn lt a b d') : Good tg lt a b d' :=
  Good.of_perm hb (fun i h1 h2 => by
    by_cases z : i < m
    · have := G1.t i h1 z; omega
    · have := G2.t i (by omega) h2; omega) P s
end St
end Go.Proofs.YtpanlcnoopmchaaGreatDoor

namespace Go.Proofs.YtpanlcnoopmchaaGreatDoor
open Go Go.Sort Go.RowKit V
set_option maxHeartbeats 4000000
structure Qu where
  pl : Int
  le : Int
instance : Inhabited Qu := ⟨⟨0, 0⟩⟩
structure Qt where
  q : Qu
  tg : Nat
instance : Inhabited Qt := ⟨⟨default, 0⟩⟩
def less (cf : Qt → Qt → Int) (x y : Qt) : Bool := decide (cf x y < 0)
end Go.Proofs.YtpanlcnoopmchaaGreatDoor

namespace Go.Proofs.YtpanlcnoopmchaaGreatDoor
open Go Go.Sort Go.RowKit V
set_option maxHeartbeats 4000000
end Go.Proofs.YtpanlcnoopmchaaGreatDoor

namespace Go.Proofs.YtpanlcnoopmchaaGreatDoor
open Go Go.Sort Go.RowKit V
set_option maxHeartbeats 4000000
theorem _root_.Go.Proofs.YtpanlcnoopmchaaGreatDoor.V.NShr.mid {i j : Nat} {K : Int → Prop} (hK : K (((i + j) / 2 : Nat) : Int)) : V.NShr .u64 ((i : Int) + j) 1 K := by
  refine ⟨by decide, ?_⟩
  have e : ((i : Int) + j).fdiv (2 ^ (min (1 : Int).toNat IntKind.u64.bits)) = (((i + j) / 2 : Nat) : Int) := by
    rw [show (2 : Int) ^ (min (1 : Int).toNat IntKind.u64.bits) = 2 from by decide, Int.fdiv_eq_ediv_of_nonneg _ (by decide)]
    omega
  rw [e]
  exact hK
end Go.Proofs.YtpanlcnoopmchaaGreatDoor

namespace Go.Proofs.YtpanlcnoopmchaaGreatDoor
open Go Go.Sort Go.RowKit V
set_option maxHeartbeats 4000000
end Go.Proofs.YtpanlcnoopmchaaGreatDoor

namespace Go.Proofs.YtpanlcnoopmchaaGreatDoor
open Go Go.Sort Go.RowKit V
set_option maxHeartbeats 4000000
end Go.Proofs.YtpanlcnoopmchaaGreatDoor

namespace Go.Proofs.YtpanlcnoopmchaaGreatDoor
open Go Go.Sort Go.RowKit V
set_option maxHeartbeats 4000000
end Go.Proofs.YtpanlcnoopmchaaGreatDoor

namespace Go.Proofs.YtpanlcnoopmchaaGreatDoor
open Go Go.Sort Go.RowKit V
set_option maxHeartbeats 4000000
def cmpI (u v : Int) : Int := if u < v then -1 else if v < u then 1 else 0
theorem v_isNaN (x : Int) : V.Fn Tryz.prog 110 [] [.one (.val (.int .i64 x))] (.bool false) := by
  refine V.Fn.mk_ V.Tok V.mixed Tryz.func110 rfl Tryz.ntmps110 (by kernel_rfl) rfl rfl ?_
  repeat' ((conv => whnf); first | refine V.NCond.mk ?_ | refine V.NPick.l ?_ | refine V.NIf.not_ ?_ | refine V.NIf.dec_ ?_ | refine V.a4 ?_ | refine V.a5 ?_ | refine V.NIf.mk (fun _ => ?_) (fun _ => ?_) | refine V.a7 ?_ | refine V.a8 ?_ | refine V.a9 ?_ | refine V.NBoth.mk ?_ ?_ | refine V.b1 ?_ | refine V.b2 ?_ | refine V.NTF.dec ?_ | refine V.b3 ?_ | refine V.b4 ?_ | (refine V.NDraw.any (by kernel_rfl) ?_) | fail)
  all_goals (conv => whnf)
  all_goals first
    | rfl
    | exact ⟨false, rfl, iff_of_false (by omega) (by decide)⟩
    | trace_state
theorem v_compare (u v : Int) : V.Fn Tryz.prog 89 [] [.one (.val (.int .i64 u)), .one (.val (.int .i64 v))] (.int .i64 (cmpI u v)) := by
  have c1 : u < v → cmpI u v = -1 := fun h => if_pos h
  have c2 : ¬ u < v → v < u → cmpI u v = 1 := fun h k => (if_neg h).trans (if_pos k)
  have c3 : ¬ u < v → ¬ v < u → cmpI u v = 0 := fun h k => (if_neg h).trans (if_neg k)
  refine V.Fn.mk_ V.Tok V.mixed Tryz.func89 rfl Tryz.ntmps89 (by kernel_rfl) rfl rfl ?_
  repeat' ((conv => whnf); first | (refine V.NIf.yes ?_ ?_; · (decide; done)) | (refine V.NIf.no ?_ ?_; · (decide; done)) | refine V.NCond.mk ?_ | refine V.NPick.l ?_ | refine V.NIf.not_ ?_ | refine V.NIf.dec_ ?_ | refine V.a4 ?_ | refine V.a5 ?_ | refine V.NIf.mk (fun _ => ?_) (fun _ => ?_) | refine V.a7 ?_ | refine V.a8 ?_ | refine V.a9 ?_ | refine V.NBoth.mk ?_ ?_ | refine V.b1 ?_ | refine V.b2 ?_ | refine V.NTF.dec ?_ | refine V.b3 ?_ | refine V.b4 ?_ | (first | refine V.Fn.k0 (v_isNaN _) rfl ?_ | refine V.Fn.q0 (v_isNaN _) rfl ?_ | refine V.Fn.a0 (v_isNaN _) rfl ?_) | (refine V.NDraw.any (by kernel_rfl) ?_) | fail)
  all_goals (conv => whnf)
  · rw [c1 (by assumption)]
  · rw [c2 (by assumption) (by assumption)]
  · rw [c3 (by assumption) (by assumption)]
end Go.Proofs.YtpanlcnoopmchaaGreatDoor
