/- Shared texts, one behind the other: VLots3, VLots4, VLots5, VLots6, VNil, VLots7, VLots8, VLots9, PricePl, MarginPl, VNet0, ClaimPl, VFailM, VSame, VLots10, LotPl3, VOpenLt, VSized -/
import Derived.Maps.OwnSet
import Derived.Maps.AppendAt
import Derived.SizedLaws
import Derived.Test.YticbaaigcmmggaaZ1
import Derived.Test.YticbaaigcmmggaaZ2
import Derived.Test.YticbaaigcmmggaaZ3

/- What a sale of lots answers. -/
namespace Go.Proofs.Yticbaaigcmmggaa
open Go Go.RowKit V
set_option maxRecDepth 100000
set_option linter.unusedVariables false
set_option linter.unusedSimpArgs false
set_option maxHeartbeats 4000000
theorem v_ltSell2 (l : List Lt) (m : Int) (h0 : L.chk l = 0) (hm : 1 ≤ m ∧ m ≤ 42949672960) (hu : m ≤ L.un l) : V.FnR Try.prog 10 [.arr 3 l.length (ga encL l)] [.one (.ref 0), .one (.val (.int .i64 m)), .one (.val (.int .i64 2))] (.tup [.one (.ref 1), .one (.val (.int .i64 (L.sell 2 l.length l m).2)), .one (.val (.int .i64 0))]) [.row 24 3 (L.sell 2 l.length l m).1.length (ga encL (L.sell 2 l.length l m).1)] := by
  obtain ⟨n40, ho, _⟩ := L.chk_ok h0
  have ck := v_ltCheck l (by omega)
  rw [h0] at ck
  refine V.FnR.mk_ V.Tok V.mixed Try.func10 rfl Try.ntmps10 (by kernel_rfl) rfl rfl rfl rfl ?_
  repeat' ((conv => whnf); first | (refine V.NIf.yes ?_ ?_; · (decide; done)) | (refine V.NIf.no ?_ ?_; · (decide; done)) | refine V.NCond.mk ?_ | refine V.NIf.not_ ?_ | refine V.NIf.dec_ ?_ | refine V.NIf.no (by omega) ?_ | refine V.NIf.yes (by omega) ?_ | refine V.NIf.mk (fun _ => ?_) (fun _ => ?_) | refine V.NWrap.ok (by omega) (by omega) ?_ | refine V.NWrap.u64 (by omega) (by omega) ?_ | refine V.NLt.mk (by omega) ?_ | refine V.NBoth.mk ?_ ?_ | refine V.NTF.yes (by omega) ?_ | refine V.NTF.no (by omega) ?_ | refine V.NTF.dec ?_ | refine V.NDraw.q (by exact rfl) (by kernel_rfl) ?_ | refine V.NApp.one (by first | omega | (simp; omega)) (by first | omega | (simp; omega)) ?_ | ((first | refine V.Fn.k (ck) [0] rfl ?_ ?_ | refine V.Fn.q (ck) [0] rfl ?_ ?_ | refine V.Fn.a (ck) [0] rfl ?_ ?_); · ((repeat' (first | exact rfl | exact Iff.rfl | exact trivial | exact (fun _ _ => rfl) | exact (fun _ h => absurd h (Nat.not_lt_zero _)) | refine ⟨?_, ?_⟩ | exact Iff.rfl | exact congrArg (fun z => V.SV.one (V.At.val (Value.int .i64 z))) (by omega))); done)) | (refine V.NCall.inl (f := 19) V.Tok V.mixed Try.func19 rfl Try.ntmps19 (by kernel_rfl) rfl ?_) | ((first | refine V.Fn.k (v_ltUnits l n40 ho) [0] rfl ?_ ?_ | refine V.Fn.q (v_ltUnits l n40 ho) [0] rfl ?_ ?_ | refine V.Fn.a (v_ltUnits l n40 ho) [0] rfl ?_ ?_); · ((repeat' (first | exact rfl | exact Iff.rfl | exact trivial | exact (fun _ _ => rfl) | exact (fun _ h => absurd h (Nat.not_lt_zero _)) | refine ⟨?_, ?_⟩ | exact Iff.rfl | exact congrArg (fun z => V.SV.one (V.At.val (Value.int .i64 z))) (by omega))); done)) | ((first | refine V.FnR.k_ (v_cloneL l (by omega)) [0] rfl ?_ ?_ | refine V.FnR.a_ (v_cloneL l (by omega)) [0] rfl ?_ ?_); · ((repeat' (first | exact rfl | exact Iff.rfl | exact trivial | exact (fun _ _ => rfl) | exact (fun _ h => absurd h (Nat.not_lt_zero _)) | refine ⟨?_, ?_⟩ | exact Iff.rfl | exact congrArg (fun z => V.SV.one (V.At.val (Value.int .i64 z))) (by omega))); done)) | (refine NIdx.mk ⟨1, rfl, by decide, ?_⟩) | (refine V.NDraw.any (by kernel_rfl) ?_) | fail)
  all_goals (conv => whnf)
  refine V.NLoop.auto (fun (s : List Lt × Int × Int) => [(1, .one (.val (.int .i64 s.2.1))), (12, .one (.ref 4)), (13, .one (.val (.int .i64 s.2.2)))]) (fun (s : List Lt × Int × Int) => [(4, .row 24 3 s.1.length (ga encL s.1))]) [2, 3, 4, 5, 6, 7, 8, 9, 10, 11, 15, 16, 17, 18, 19, 20, 21, 22, 23, 24, 25, 26, 27, 28, 29, 30, 31, 32, 33, 34, 35, 36, 37, 38, 39, 40, 41, 42, 43, 44, 45, 46, 47, 48, 49, 50, 51, 52, 53, 54, 55, 56, 57, 58, 59, 60, 61, 62, 63] [1, 2, 3, 5, 6] (fun (s : List Lt × Int × Int) => s.2.1.toNat) (fun (s : List Lt × Int × Int) => s.1.length ≤ 40 ∧ (∀ x ∈ s.1, L.Ok x) ∧ 0 ≤ s.2.1 ∧ s.2.1 ≤ L.un s.1 ∧ 0 ≤ s.2.2 ∧ s.2.2 + L.co s.1 ≤ 171798691840 ∧ L.sell 2 l.length l m = ((L.sell 2 s.1.length s.1 s.2.1).1, s.2.2 + (L.sell 2 s.1.length s.1 s.2.1).2)) (l, m, 0) ⟨n40, ho, by dsimp only; omega, hu, Int.le_refl _, by have := L.sums_bd ho; dsimp only; omega, by rw [Int.zero_add]⟩ (by repeat' (first | exact rfl | exact Iff.rfl | exact trivial | exact (fun _ _ => rfl) | exact (fun _ h => absurd h (Nat.not_lt_zero _)) | refine ⟨?_, ?_⟩ | exact Iff.rfl | exact congrArg (fun z => V.SV.one (V.At.val (Value.int .i64 z))) (by omega))) (by repeat' (first | exact rfl | exact Iff.rfl | exact trivial | exact (fun _ _ => rfl) | exact (fun _ h => absurd h (Nat.not_lt_zero _)) | refine ⟨?_, ?_⟩ | exact Iff.rfl | exact congrArg (fun z => V.SV.one (V.At.val (Value.int .i64 z))) (by omega))) (fun _ => ⟨rfl, rfl⟩) ?_; (conv => whnf); refine ⟨⟨rfl, rfl⟩, ?_⟩
  rintro s ⟨j1, j2, j3, j4, j5, j6, j7⟩
  generalize s.1 = out at *
  generalize s.2.1 = m' at *
  generalize s.2.2 = fell at *
  clear ck h0 hm hu ho n40
  by_cases hp : 0 < m'
  · have pos : 0 < out.length := by
      cases out with
      | nil => simp [L.un] at j4; omega
      | cons a r => simp
    have hi : L.pick 2 out < out.length := L.pick_lt pos
    have pk := v_kinds2 out pos (by omega)
    have sa := @L.sell_all 2 (out.length - 1) out m' hp
    have sp := @L.sell_part 2 (out.length - 1) out m' hp
    rw [Nat.sub_add_cancel pos] at sa sp
    replace pk : V.Fn Try.prog 29 [.arr 3 out.length (ga encL out)] [.one (.ref 0)] (.int .i64 (L.pick 2 out)) := pk
    generalize L.pick 2 out = i at *
    have ox := j2 _ (getD_mem (l := out) hi)
    have sb := L.sums_bd j2
    have dg := del_gaL hi
    have ua := L.un_at hi
    have us := L.un_set hi ⟨(out.getD i default).day, (out.getD i default).un - m', (out.getD i default).co - L.part (out.getD i default) m'⟩
    have lm := @L.mem_less out i
    unfold L.Ok at ox
    by_cases hx : (out.getD i default).un ≤ m'
    · have sa := sa hx
      clear sp us
      have dl : (out.take i ++ out.drop (i + 1)).length = out.length - 1 := by simp; omega
      generalize out.take i ++ out.drop (i + 1) = del at *
      have J1 : del.length ≤ 40 ∧ (∀ x ∈ del, L.Ok x) ∧ 0 ≤ m' - (out.getD i default).un ∧ m' - (out.getD i default).un ≤ L.un del ∧ 0 ≤ fell + (out.getD i default).co ∧ fell + (out.getD i default).co + L.co del ≤ 171798691840 ∧ L.sell 2 l.length l m = ((L.sell 2 del.length del (m' - (out.getD i default).un)).1, fell + (out.getD i default).co + (L.sell 2 del.length del (m' - (out.getD i default).un)).2) :=
        ⟨by omega, fun x hx => j2 x (lm hx), by omega, by omega, by omega, by omega, by rw [j7, sa, dl]; dsimp only; rw [Int.add_assoc]⟩
      repeat' ((conv => whnf); first | refine V.NCond.mk ?_ | refine V.NIf.not_ ?_ | refine V.NIf.dec_ ?_ | refine V.NIf.no (by omega) ?_ | refine V.NIf.yes (by omega) ?_ | refine V.NIf.mk (fun _ => ?_) (fun _ => ?_) | refine V.NWrap.ok (by omega) (by omega) ?_ | refine V.NWrap.u64 (by omega) (by omega) ?_ | refine V.NLt.mk (by omega) ?_ | refine V.NBoth.mk ?_ ?_ | refine V.NTF.yes (by omega) ?_ | refine V.NTF.no (by omega) ?_ | refine V.NTF.dec ?_ | refine V.NDraw.q (by exact rfl) (by kernel_rfl) ?_ | refine V.NApp.one (by first | omega | (simp; omega)) (by first | omega | (simp; omega)) ?_ | ((first | refine V.Fn.k (pk) [4] rfl ?_ ?_ | refine V.Fn.q (pk) [4] rfl ?_ ?_ | refine V.Fn.a (pk) [4] rfl ?_ ?_); · ((repeat' (first | exact rfl | exact Iff.rfl | exact trivial | exact (fun _ _ => rfl) | exact (fun _ h => absurd h (Nat.not_lt_zero _)) | refine ⟨?_, ?_⟩ | exact Iff.rfl | exact congrArg (fun z => V.SV.one (V.At.val (Value.int .i64 z))) (by omega))); done)) | (refine NIdx.mk ⟨i, rfl, by omega, ?_⟩) | (refine V.NCall.del i (i + 1) rfl rfl rfl (by omega) (by omega) (fun k hk u hu => by simp [ga, encL] at hu; rcases hu with rfl | rfl | rfl <;> rfl) ?_) | (refine V.NDraw.any (by kernel_rfl) ?_) | fail)
      all_goals (conv => whnf)
      exact V.NBack.at_ (del, m' - (out.getD i default).un, fell + (out.getD i default).co) [(7, 4), (4, 7)] J1 (by dsimp only; omega) (by repeat' (first | exact rfl | exact Iff.rfl | exact trivial | exact (fun _ _ => rfl) | exact (fun _ h => absurd h (Nat.not_lt_zero _)) | refine ⟨?_, ?_⟩ | exact Iff.rfl | exact congrArg (fun z => V.SV.one (V.At.val (Value.int .i64 z))) (by omega))) rfl ⟨⟨rfl, rfl, by first | omega | (dsimp only; omega), fun k hk => dg k (by first | omega | (dsimp only at hk; omega))⟩, trivial⟩ (by repeat' (first | exact rfl | exact Iff.rfl | exact trivial | exact (fun _ _ => rfl) | exact (fun _ h => absurd h (Nat.not_lt_zero _)) | refine ⟨?_, ?_⟩ | exact Iff.rfl | exact congrArg (fun z => V.SV.one (V.At.val (Value.int .i64 z))) (by omega))) (by repeat' (first | exact rfl | exact Iff.rfl | exact trivial | exact (fun _ _ => rfl) | exact (fun _ h => absurd h (Nat.not_lt_zero _)) | refine ⟨?_, ?_⟩ | exact Iff.rfl | exact congrArg (fun z => V.SV.one (V.At.val (Value.int .i64 z))) (by omega)))
    · have sp := sp hx
      have pb := L.part_bd (x := out.getD i default) (m := m') ox (by omega) (by omega)
      have pq := v_part (out.getD i default).co m' (out.getD i default).un
      have pe : M.prQ (out.getD i default).co m' (out.getD i default).un = L.part (out.getD i default) m' := if_pos ⟨⟨by unfold M.Amt; omega, by omega, by omega⟩, by unfold L.part at pb; unfold M.Amt; omega⟩
      rw [pe] at pq
      have gs := fun v => getD_setL (v := v) hi
      generalize L.part (out.getD i default) m' = Q at *
      have J2 : (out.set i ⟨(out.getD i default).day, (out.getD i default).un - m', (out.getD i default).co - Q⟩).length ≤ 40 ∧ (∀ x ∈ out.set i ⟨(out.getD i default).day, (out.getD i default).un - m', (out.getD i default).co - Q⟩, L.Ok x) ∧ 0 ≤ (0 : Int) ∧ 0 ≤ L.un (out.set i ⟨(out.getD i default).day, (out.getD i default).un - m', (out.getD i default).co - Q⟩) ∧ 0 ≤ fell + Q ∧ fell + Q + L.co (out.set i ⟨(out.getD i default).day, (out.getD i default).un - m', (out.getD i default).co - Q⟩) ≤ 171798691840 ∧ L.sell 2 l.length l m = ((L.sell 2 (out.set i ⟨(out.getD i default).day, (out.getD i default).un - m', (out.getD i default).co - Q⟩).length (out.set i ⟨(out.getD i default).day, (out.getD i default).un - m', (out.getD i default).co - Q⟩) 0).1, fell + Q + (L.sell 2 (out.set i ⟨(out.getD i default).day, (out.getD i default).un - m', (out.getD i default).co - Q⟩).length (out.set i ⟨(out.getD i default).day, (out.getD i default).un - m', (out.getD i default).co - Q⟩) 0).2) := by
        dsimp only at us
        refine ⟨by rw [List.length_set]; exact j1, fun x hx => ?_, by omega, by omega, by omega, by omega, ?_⟩
        · rcases List.mem_or_eq_of_mem_set hx with hx | rfl
          · exact j2 x hx
          · unfold L.Ok; dsimp only; omega
        · rw [j7, sp, L.sell_end 2 _ _ (Int.le_refl 0)]; simp
      clear us sa dg ua lm
      repeat' ((conv => whnf); first | refine V.NCond.mk ?_ | refine V.NIf.not_ ?_ | refine V.NIf.dec_ ?_ | refine V.NIf.no (by omega) ?_ | refine V.NIf.yes (by omega) ?_ | refine V.NIf.mk (fun _ => ?_) (fun _ => ?_) | refine V.NWrap.ok (by omega) (by omega) ?_ | refine V.NWrap.u64 (by omega) (by omega) ?_ | refine V.NLt.mk (by omega) ?_ | refine V.NBoth.mk ?_ ?_ | refine V.NTF.yes (by omega) ?_ | refine V.NTF.no (by omega) ?_ | refine V.NTF.dec ?_ | refine V.NDraw.q (by exact rfl) (by kernel_rfl) ?_ | refine V.NApp.one (by first | omega | (simp; omega)) (by first | omega | (simp; omega)) ?_ | ((first | refine V.Fn.k (pk) [4] rfl ?_ ?_ | refine V.Fn.q (pk) [4] rfl ?_ ?_ | refine V.Fn.a (pk) [4] rfl ?_ ?_); · ((repeat' (first | exact rfl | exact Iff.rfl | exact trivial | exact (fun _ _ => rfl) | exact (fun _ h => absurd h (Nat.not_lt_zero _)) | refine ⟨?_, ?_⟩ | exact Iff.rfl | exact congrArg (fun z => V.SV.one (V.At.val (Value.int .i64 z))) (by omega))); done)) | (refine NIdx.mk ⟨i, rfl, by omega, ?_⟩) | (first | refine V.Fn.k0 (pq) rfl ?_ | refine V.Fn.q0 (pq) rfl ?_ | refine V.Fn.a0 (pq) rfl ?_) | (refine V.NDraw.join (by kernel_rfl) [(0, .one (.ref 0)), (1, .one (.val (.int .i64 m'))), (12, .one (.ref 4)), (13, .one (.val (.int .i64 fell))), (14, .one (.clo 29 [])), (17, .one (.val (.int .i64 Q)))] [(0, .arr 3 l.length (ga encL l)), (4, .row 24 3 out.length (ga encL (out.set i ⟨(out.getD i default).day, (out.getD i default).un - m', (out.getD i default).co - Q⟩)))] 7 ?_ rfl ⟨rfl, rfl⟩ ?_) | ((refine V.NJoin.by_ [] rfl rfl ?_ ?_ <;> ((repeat' (first | exact rfl | exact Iff.rfl | exact trivial | exact (fun _ _ => rfl) | exact (fun _ h => absurd h (Nat.not_lt_zero _)) | refine ⟨?_, ?_⟩ | exact Iff.rfl | exact congrArg (fun z => V.SV.one (V.At.val (Value.int .i64 z))) (by omega))); done))) | (refine NPut.is_ (en := encL) (l := out) ⟨(out.getD i default).day, (out.getD i default).un, (out.getD i default).co - Q⟩ (out.set i ⟨(out.getD i default).day, (out.getD i default).un, (out.getD i default).co - Q⟩) rfl rfl rfl ?_) | (refine NPut.is_ (en := encL) (l := out.set i ⟨(out.getD i default).day, (out.getD i default).un, (out.getD i default).co - Q⟩) ⟨(out.getD i default).day, (out.getD i default).un - m', (out.getD i default).co - Q⟩ (out.set i ⟨(out.getD i default).day, (out.getD i default).un - m', (out.getD i default).co - Q⟩) (by rw [List.set_set]) (by simp) (by rw [gs]; rfl) ?_) | (refine V.NDraw.any (by kernel_rfl) ?_) | fail)
      all_goals (conv => whnf)
      all_goals exact V.NBack.at_ (out.set i ⟨(out.getD i default).day, (out.getD i default).un - m', (out.getD i default).co - Q⟩, 0, fell + Q) [] J2 (by dsimp only; omega) (by repeat' (first | exact rfl | exact Iff.rfl | exact trivial | exact (fun _ _ => rfl) | exact (fun _ h => absurd h (Nat.not_lt_zero _)) | refine ⟨?_, ?_⟩ | exact Iff.rfl | exact congrArg (fun z => V.SV.one (V.At.val (Value.int .i64 z))) (by omega))) rfl ⟨⟨rfl, rfl, List.length_set.symm, fun _ _ => rfl⟩, trivial⟩ (by repeat' (first | exact rfl | exact Iff.rfl | exact trivial | exact (fun _ _ => rfl) | exact (fun _ h => absurd h (Nat.not_lt_zero _)) | refine ⟨?_, ?_⟩ | exact Iff.rfl | exact congrArg (fun z => V.SV.one (V.At.val (Value.int .i64 z))) (by omega))) (by repeat' (first | exact rfl | exact Iff.rfl | exact trivial | exact (fun _ _ => rfl) | exact (fun _ h => absurd h (Nat.not_lt_zero _)) | refine ⟨?_, ?_⟩ | exact Iff.rfl | exact congrArg (fun z => V.SV.one (V.At.val (Value.int .i64 z))) (by omega)))
  · have j8 : L.sell 2 l.length l m = (out, fell) := by rw [j7, L.sell_end 2 _ _ (by omega)]; simp
    rw [j8]
    repeat' ((conv => whnf); first | refine V.NCond.mk ?_ | refine V.NIf.not_ ?_ | refine V.NIf.dec_ ?_ | refine V.NIf.no (by omega) ?_ | refine V.NIf.yes (by omega) ?_ | refine V.NIf.mk (fun _ => ?_) (fun _ => ?_) | refine V.NWrap.ok (by omega) (by omega) ?_ | refine V.NWrap.u64 (by omega) (by omega) ?_ | refine V.NLt.mk (by omega) ?_ | refine V.NBoth.mk ?_ ?_ | refine V.NTF.yes (by omega) ?_ | refine V.NTF.no (by omega) ?_ | refine V.NTF.dec ?_ | refine V.NDraw.q (by exact rfl) (by kernel_rfl) ?_ | refine V.NApp.one (by first | omega | (simp; omega)) (by first | omega | (simp; omega)) ?_ | (refine V.NDraw.any (by kernel_rfl) ?_) | fail)
    all_goals (conv => whnf)
    exact NRet.mk_ [some 4] rfl ⟨rfl, rfl, rfl, trivial⟩ ⟨⟨rfl, rfl, rfl, fun k hk => rfl⟩, trivial⟩
end Go.Proofs.Yticbaaigcmmggaa

/- What a sale of lots answers. -/
namespace Go.Proofs.Yticbaaigcmmggaa
open Go Go.RowKit V
set_option maxRecDepth 100000
set_option linter.unusedVariables false
set_option linter.unusedSimpArgs false
set_option maxHeartbeats 4000000
theorem v_ltSell3 (l : List Lt) (m : Int) (h0 : L.chk l = 0) (hm : 1 ≤ m ∧ m ≤ 42949672960) (hu : m ≤ L.un l) : V.FnR Try.prog 10 [.arr 3 l.length (ga encL l)] [.one (.ref 0), .one (.val (.int .i64 m)), .one (.val (.int .i64 3))] (.tup [.one (.ref 1), .one (.val (.int .i64 (L.sell 3 l.length l m).2)), .one (.val (.int .i64 0))]) [.row 24 3 (L.sell 3 l.length l m).1.length (ga encL (L.sell 3 l.length l m).1)] := by
  obtain ⟨n40, ho, _⟩ := L.chk_ok h0
  have ck := v_ltCheck l (by omega)
  rw [h0] at ck
  refine V.FnR.mk_ V.Tok V.mixed Try.func10 rfl Try.ntmps10 (by kernel_rfl) rfl rfl rfl rfl ?_
  repeat' ((conv => whnf); first | (refine V.NIf.yes ?_ ?_; · (decide; done)) | (refine V.NIf.no ?_ ?_; · (decide; done)) | refine V.NCond.mk ?_ | refine V.NIf.not_ ?_ | refine V.NIf.dec_ ?_ | refine V.NIf.no (by omega) ?_ | refine V.NIf.yes (by omega) ?_ | refine V.NIf.mk (fun _ => ?_) (fun _ => ?_) | refine V.NWrap.ok (by omega) (by omega) ?_ | refine V.NWrap.u64 (by omega) (by omega) ?_ | refine V.NLt.mk (by omega) ?_ | refine V.NBoth.mk ?_ ?_ | refine V.NTF.yes (by omega) ?_ | refine V.NTF.no (by omega) ?_ | refine V.NTF.dec ?_ | refine V.NDraw.q (by exact rfl) (by kernel_rfl) ?_ | refine V.NApp.one (by first | omega | (simp; omega)) (by first | omega | (simp; omega)) ?_ | ((first | refine V.Fn.k (ck) [0] rfl ?_ ?_ | refine V.Fn.q (ck) [0] rfl ?_ ?_ | refine V.Fn.a (ck) [0] rfl ?_ ?_); · ((repeat' (first | exact rfl | exact Iff.rfl | exact trivial | exact (fun _ _ => rfl) | exact (fun _ h => absurd h (Nat.not_lt_zero _)) | refine ⟨?_, ?_⟩ | exact Iff.rfl | exact congrArg (fun z => V.SV.one (V.At.val (Value.int .i64 z))) (by omega))); done)) | (refine V.NCall.inl (f := 19) V.Tok V.mixed Try.func19 rfl Try.ntmps19 (by kernel_rfl) rfl ?_) | ((first | refine V.Fn.k (v_ltUnits l n40 ho) [0] rfl ?_ ?_ | refine V.Fn.q (v_ltUnits l n40 ho) [0] rfl ?_ ?_ | refine V.Fn.a (v_ltUnits l n40 ho) [0] rfl ?_ ?_); · ((repeat' (first | exact rfl | exact Iff.rfl | exact trivial | exact (fun _ _ => rfl) | exact (fun _ h => absurd h (Nat.not_lt_zero _)) | refine ⟨?_, ?_⟩ | exact Iff.rfl | exact congrArg (fun z => V.SV.one (V.At.val (Value.int .i64 z))) (by omega))); done)) | ((first | refine V.FnR.k_ (v_cloneL l (by omega)) [0] rfl ?_ ?_ | refine V.FnR.a_ (v_cloneL l (by omega)) [0] rfl ?_ ?_); · ((repeat' (first | exact rfl | exact Iff.rfl | exact trivial | exact (fun _ _ => rfl) | exact (fun _ h => absurd h (Nat.not_lt_zero _)) | refine ⟨?_, ?_⟩ | exact Iff.rfl | exact congrArg (fun z => V.SV.one (V.At.val (Value.int .i64 z))) (by omega))); done)) | (refine NIdx.mk ⟨2, rfl, by decide, ?_⟩) | (refine V.NDraw.any (by kernel_rfl) ?_) | fail)
  all_goals (conv => whnf)
  refine V.NLoop.auto (fun (s : List Lt × Int × Int) => [(1, .one (.val (.int .i64 s.2.1))), (12, .one (.ref 4)), (13, .one (.val (.int .i64 s.2.2)))]) (fun (s : List Lt × Int × Int) => [(4, .row 24 3 s.1.length (ga encL s.1))]) [2, 3, 4, 5, 6, 7, 8, 9, 10, 11, 15, 16, 17, 18, 19, 20, 21, 22, 23, 24, 25, 26, 27, 28, 29, 30, 31, 32, 33, 34, 35, 36, 37, 38, 39, 40, 41, 42, 43, 44, 45, 46, 47, 48, 49, 50, 51, 52, 53, 54, 55, 56, 57, 58, 59, 60, 61, 62, 63] [1, 2, 3, 5, 6] (fun (s : List Lt × Int × Int) => s.2.1.toNat) (fun (s : List Lt × Int × Int) => s.1.length ≤ 40 ∧ (∀ x ∈ s.1, L.Ok x) ∧ 0 ≤ s.2.1 ∧ s.2.1 ≤ L.un s.1 ∧ 0 ≤ s.2.2 ∧ s.2.2 + L.co s.1 ≤ 171798691840 ∧ L.sell 3 l.length l m = ((L.sell 3 s.1.length s.1 s.2.1).1, s.2.2 + (L.sell 3 s.1.length s.1 s.2.1).2)) (l, m, 0) ⟨n40, ho, by dsimp only; omega, hu, Int.le_refl _, by have := L.sums_bd ho; dsimp only; omega, by rw [Int.zero_add]⟩ (by repeat' (first | exact rfl | exact Iff.rfl | exact trivial | exact (fun _ _ => rfl) | exact (fun _ h => absurd h (Nat.not_lt_zero _)) | refine ⟨?_, ?_⟩ | exact Iff.rfl | exact congrArg (fun z => V.SV.one (V.At.val (Value.int .i64 z))) (by omega))) (by repeat' (first | exact rfl | exact Iff.rfl | exact trivial | exact (fun _ _ => rfl) | exact (fun _ h => absurd h (Nat.not_lt_zero _)) | refine ⟨?_, ?_⟩ | exact Iff.rfl | exact congrArg (fun z => V.SV.one (V.At.val (Value.int .i64 z))) (by omega))) (fun _ => ⟨rfl, rfl⟩) ?_; (conv => whnf); refine ⟨⟨rfl, rfl⟩, ?_⟩
  rintro s ⟨j1, j2, j3, j4, j5, j6, j7⟩
  generalize s.1 = out at *
  generalize s.2.1 = m' at *
  generalize s.2.2 = fell at *
  clear ck h0 hm hu ho n40
  by_cases hp : 0 < m'
  · have pos : 0 < out.length := by
      cases out with
      | nil => simp [L.un] at j4; omega
      | cons a r => simp
    have hi : L.pick 3 out < out.length := L.pick_lt pos
    have pk := v_kinds3 out pos (by omega) j2
    have sa := @L.sell_all 3 (out.length - 1) out m' hp
    have sp := @L.sell_part 3 (out.length - 1) out m' hp
    rw [Nat.sub_add_cancel pos] at sa sp
    replace pk : V.Fn Try.prog 30 [.arr 3 out.length (ga encL out)] [.one (.ref 0)] (.int .i64 (L.pick 3 out)) := pk
    generalize L.pick 3 out = i at *
    have ox := j2 _ (getD_mem (l := out) hi)
    have sb := L.sums_bd j2
    have dg := del_gaL hi
    have ua := L.un_at hi
    have us := L.un_set hi ⟨(out.getD i default).day, (out.getD i default).un - m', (out.getD i default).co - L.part (out.getD i default) m'⟩
    have lm := @L.mem_less out i
    unfold L.Ok at ox
    by_cases hx : (out.getD i default).un ≤ m'
    · have sa := sa hx
      clear sp us
      have dl : (out.take i ++ out.drop (i + 1)).length = out.length - 1 := by simp; omega
      generalize out.take i ++ out.drop (i + 1) = del at *
      have J1 : del.length ≤ 40 ∧ (∀ x ∈ del, L.Ok x) ∧ 0 ≤ m' - (out.getD i default).un ∧ m' - (out.getD i default).un ≤ L.un del ∧ 0 ≤ fell + (out.getD i default).co ∧ fell + (out.getD i default).co + L.co del ≤ 171798691840 ∧ L.sell 3 l.length l m = ((L.sell 3 del.length del (m' - (out.getD i default).un)).1, fell + (out.getD i default).co + (L.sell 3 del.length del (m' - (out.getD i default).un)).2) :=
        ⟨by omega, fun x hx => j2 x (lm hx), by omega, by omega, by omega, by omega, by rw [j7, sa, dl]; dsimp only; rw [Int.add_assoc]⟩
      repeat' ((conv => whnf); first | refine V.NCond.mk ?_ | refine V.NIf.not_ ?_ | refine V.NIf.dec_ ?_ | refine V.NIf.no (by omega) ?_ | refine V.NIf.yes (by omega) ?_ | refine V.NIf.mk (fun _ => ?_) (fun _ => ?_) | refine V.NWrap.ok (by omega) (by omega) ?_ | refine V.NWrap.u64 (by omega) (by omega) ?_ | refine V.NLt.mk (by omega) ?_ | refine V.NBoth.mk ?_ ?_ | refine V.NTF.yes (by omega) ?_ | refine V.NTF.no (by omega) ?_ | refine V.NTF.dec ?_ | refine V.NDraw.q (by exact rfl) (by kernel_rfl) ?_ | refine V.NApp.one (by first | omega | (simp; omega)) (by first | omega | (simp; omega)) ?_ | ((first | refine V.Fn.k (pk) [4] rfl ?_ ?_ | refine V.Fn.q (pk) [4] rfl ?_ ?_ | refine V.Fn.a (pk) [4] rfl ?_ ?_); · ((repeat' (first | exact rfl | exact Iff.rfl | exact trivial | exact (fun _ _ => rfl) | exact (fun _ h => absurd h (Nat.not_lt_zero _)) | refine ⟨?_, ?_⟩ | exact Iff.rfl | exact congrArg (fun z => V.SV.one (V.At.val (Value.int .i64 z))) (by omega))); done)) | (refine NIdx.mk ⟨i, rfl, by omega, ?_⟩) | (refine V.NCall.del i (i + 1) rfl rfl rfl (by omega) (by omega) (fun k hk u hu => by simp [ga, encL] at hu; rcases hu with rfl | rfl | rfl <;> rfl) ?_) | (refine V.NDraw.any (by kernel_rfl) ?_) | fail)
      all_goals (conv => whnf)
      exact V.NBack.at_ (del, m' - (out.getD i default).un, fell + (out.getD i default).co) [(7, 4), (4, 7)] J1 (by dsimp only; omega) (by repeat' (first | exact rfl | exact Iff.rfl | exact trivial | exact (fun _ _ => rfl) | exact (fun _ h => absurd h (Nat.not_lt_zero _)) | refine ⟨?_, ?_⟩ | exact Iff.rfl | exact congrArg (fun z => V.SV.one (V.At.val (Value.int .i64 z))) (by omega))) rfl ⟨⟨rfl, rfl, by first | omega | (dsimp only; omega), fun k hk => dg k (by first | omega | (dsimp only at hk; omega))⟩, trivial⟩ (by repeat' (first | exact rfl | exact Iff.rfl | exact trivial | exact (fun _ _ => rfl) | exact (fun _ h => absurd h (Nat.not_lt_zero _)) | refine ⟨?_, ?_⟩ | exact Iff.rfl | exact congrArg (fun z => V.SV.one (V.At.val (Value.int .i64 z))) (by omega))) (by repeat' (first | exact rfl | exact Iff.rfl | exact trivial | exact (fun _ _ => rfl) | exact (fun _ h => absurd h (Nat.not_lt_zero _)) | refine ⟨?_, ?_⟩ | exact Iff.rfl | exact congrArg (fun z => V.SV.one (V.At.val (Value.int .i64 z))) (by omega)))
    · have sp := sp hx
      have pb := L.part_bd (x := out.getD i default) (m := m') ox (by omega) (by omega)
      have pq := v_part (out.getD i default).co m' (out.getD i default).un
      have pe : M.prQ (out.getD i default).co m' (out.getD i default).un = L.part (out.getD i default) m' := if_pos ⟨⟨by unfold M.Amt; omega, by omega, by omega⟩, by unfold L.part at pb; unfold M.Amt; omega⟩
      rw [pe] at pq
      have gs := fun v => getD_setL (v := v) hi
      generalize L.part (out.getD i default) m' = Q at *
      have J2 : (out.set i ⟨(out.getD i default).day, (out.getD i default).un - m', (out.getD i default).co - Q⟩).length ≤ 40 ∧ (∀ x ∈ out.set i ⟨(out.getD i default).day, (out.getD i default).un - m', (out.getD i default).co - Q⟩, L.Ok x) ∧ 0 ≤ (0 : Int) ∧ 0 ≤ L.un (out.set i ⟨(out.getD i default).day, (out.getD i default).un - m', (out.getD i default).co - Q⟩) ∧ 0 ≤ fell + Q ∧ fell + Q + L.co (out.set i ⟨(out.getD i default).day, (out.getD i default).un - m', (out.getD i default).co - Q⟩) ≤ 171798691840 ∧ L.sell 3 l.length l m = ((L.sell 3 (out.set i ⟨(out.getD i default).day, (out.getD i default).un - m', (out.getD i default).co - Q⟩).length (out.set i ⟨(out.getD i default).day, (out.getD i default).un - m', (out.getD i default).co - Q⟩) 0).1, fell + Q + (L.sell 3 (out.set i ⟨(out.getD i default).day, (out.getD i default).un - m', (out.getD i default).co - Q⟩).length (out.set i ⟨(out.getD i default).day, (out.getD i default).un - m', (out.getD i default).co - Q⟩) 0).2) := by
        dsimp only at us
        refine ⟨by rw [List.length_set]; exact j1, fun x hx => ?_, by omega, by omega, by omega, by omega, ?_⟩
        · rcases List.mem_or_eq_of_mem_set hx with hx | rfl
          · exact j2 x hx
          · unfold L.Ok; dsimp only; omega
        · rw [j7, sp, L.sell_end 3 _ _ (Int.le_refl 0)]; simp
      clear us sa dg ua lm
      repeat' ((conv => whnf); first | refine V.NCond.mk ?_ | refine V.NIf.not_ ?_ | refine V.NIf.dec_ ?_ | refine V.NIf.no (by omega) ?_ | refine V.NIf.yes (by omega) ?_ | refine V.NIf.mk (fun _ => ?_) (fun _ => ?_) | refine V.NWrap.ok (by omega) (by omega) ?_ | refine V.NWrap.u64 (by omega) (by omega) ?_ | refine V.NLt.mk (by omega) ?_ | refine V.NBoth.mk ?_ ?_ | refine V.NTF.yes (by omega) ?_ | refine V.NTF.no (by omega) ?_ | refine V.NTF.dec ?_ | refine V.NDraw.q (by exact rfl) (by kernel_rfl) ?_ | refine V.NApp.one (by first | omega | (simp; omega)) (by first | omega | (simp; omega)) ?_ | ((first | refine V.Fn.k (pk) [4] rfl ?_ ?_ | refine V.Fn.q (pk) [4] rfl ?_ ?_ | refine V.Fn.a (pk) [4] rfl ?_ ?_); · ((repeat' (first | exact rfl | exact Iff.rfl | exact trivial | exact (fun _ _ => rfl) | exact (fun _ h => absurd h (Nat.not_lt_zero _)) | refine ⟨?_, ?_⟩ | exact Iff.rfl | exact congrArg (fun z => V.SV.one (V.At.val (Value.int .i64 z))) (by omega))); done)) | (refine NIdx.mk ⟨i, rfl, by omega, ?_⟩) | (first | refine V.Fn.k0 (pq) rfl ?_ | refine V.Fn.q0 (pq) rfl ?_ | refine V.Fn.a0 (pq) rfl ?_) | (refine V.NDraw.join (by kernel_rfl) [(0, .one (.ref 0)), (1, .one (.val (.int .i64 m'))), (12, .one (.ref 4)), (13, .one (.val (.int .i64 fell))), (14, .one (.clo 30 [])), (17, .one (.val (.int .i64 Q)))] [(0, .arr 3 l.length (ga encL l)), (4, .row 24 3 out.length (ga encL (out.set i ⟨(out.getD i default).day, (out.getD i default).un - m', (out.getD i default).co - Q⟩)))] 7 ?_ rfl ⟨rfl, rfl⟩ ?_) | ((refine V.NJoin.by_ [] rfl rfl ?_ ?_ <;> ((repeat' (first | exact rfl | exact Iff.rfl | exact trivial | exact (fun _ _ => rfl) | exact (fun _ h => absurd h (Nat.not_lt_zero _)) | refine ⟨?_, ?_⟩ | exact Iff.rfl | exact congrArg (fun z => V.SV.one (V.At.val (Value.int .i64 z))) (by omega))); done))) | (refine NPut.is_ (en := encL) (l := out) ⟨(out.getD i default).day, (out.getD i default).un, (out.getD i default).co - Q⟩ (out.set i ⟨(out.getD i default).day, (out.getD i default).un, (out.getD i default).co - Q⟩) rfl rfl rfl ?_) | (refine NPut.is_ (en := encL) (l := out.set i ⟨(out.getD i default).day, (out.getD i default).un, (out.getD i default).co - Q⟩) ⟨(out.getD i default).day, (out.getD i default).un - m', (out.getD i default).co - Q⟩ (out.set i ⟨(out.getD i default).day, (out.getD i default).un - m', (out.getD i default).co - Q⟩) (by rw [List.set_set]) (by simp) (by rw [gs]; rfl) ?_) | (refine V.NDraw.any (by kernel_rfl) ?_) | fail)
      all_goals (conv => whnf)
      all_goals exact V.NBack.at_ (out.set i ⟨(out.getD i default).day, (out.getD i default).un - m', (out.getD i default).co - Q⟩, 0, fell + Q) [] J2 (by dsimp only; omega) (by repeat' (first | exact rfl | exact Iff.rfl | exact trivial | exact (fun _ _ => rfl) | exact (fun _ h => absurd h (Nat.not_lt_zero _)) | refine ⟨?_, ?_⟩ | exact Iff.rfl | exact congrArg (fun z => V.SV.one (V.At.val (Value.int .i64 z))) (by omega))) rfl ⟨⟨rfl, rfl, List.length_set.symm, fun _ _ => rfl⟩, trivial⟩ (by repeat' (first | exact rfl | exact Iff.rfl | exact trivial | exact (fun _ _ => rfl) | exact (fun _ h => absurd h (Nat.not_lt_zero _)) | refine ⟨?_, ?_⟩ | exact Iff.rfl | exact congrArg (fun z => V.SV.one (V.At.val (Value.int .i64 z))) (by omega))) (by repeat' (first | exact rfl | exact Iff.rfl | exact trivial | exact (fun _ _ => rfl) | exact (fun _ h => absurd h (Nat.not_lt_zero _)) | refine ⟨?_, ?_⟩ | exact Iff.rfl | exact congrArg (fun z => V.SV.one (V.At.val (Value.int .i64 z))) (by omega)))
  · have j8 : L.sell 3 l.length l m = (out, fell) := by rw [j7, L.sell_end 3 _ _ (by omega)]; simp
    rw [j8]
    repeat' ((conv => whnf); first | refine V.NCond.mk ?_ | refine V.NIf.not_ ?_ | refine V.NIf.dec_ ?_ | refine V.NIf.no (by omega) ?_ | refine V.NIf.yes (by omega) ?_ | refine V.NIf.mk (fun _ => ?_) (fun _ => ?_) | refine V.NWrap.ok (by omega) (by omega) ?_ | refine V.NWrap.u64 (by omega) (by omega) ?_ | refine V.NLt.mk (by omega) ?_ | refine V.NBoth.mk ?_ ?_ | refine V.NTF.yes (by omega) ?_ | refine V.NTF.no (by omega) ?_ | refine V.NTF.dec ?_ | refine V.NDraw.q (by exact rfl) (by kernel_rfl) ?_ | refine V.NApp.one (by first | omega | (simp; omega)) (by first | omega | (simp; omega)) ?_ | (refine V.NDraw.any (by kernel_rfl) ?_) | fail)
    all_goals (conv => whnf)
    exact NRet.mk_ [some 4] rfl ⟨rfl, rfl, rfl, trivial⟩ ⟨⟨rfl, rfl, rfl, fun k hk => rfl⟩, trivial⟩
end Go.Proofs.Yticbaaigcmmggaa

/- What lots.Sell answers, whatever it is handed; and the document's answer of it. -/
namespace Go.Proofs.Yticbaaigcmmggaa
open Go Go.RowKit V
set_option maxRecDepth 100000
set_option linter.unusedVariables false
set_option linter.unusedSimpArgs false
set_option maxHeartbeats 4000000
theorem v_ltSellN (l : List Lt) (m kind : Int) (hn : l.length ≤ 9223372036854775807) (h : ¬ L.slE l m kind = 0) : V.FnR Try.prog 10 [.arr 3 l.length (ga encL l)] [.one (.ref 0), .one (.val (.int .i64 m)), .one (.val (.int .i64 kind))] (.tup [.one (.ref 1), .one (.val (.int .i64 0)), .one (.val (.int .i64 (L.slE l m kind)))]) [.row 24 3 ([] : List Lt).length (ga encL ([] : List Lt))] := by
  have ck := v_ltCheck l hn
  by_cases h0 : L.chk l = 0
  · have ⟨n40, ho, _⟩ := L.chk_ok h0
    rw [h0] at ck
    have vu := v_ltUnits l n40 ho
    have e2 := @L.slE_2 l m kind h0
    have e3 := @L.slE_3 l m kind h0
    have e4 := @L.slE_4 l m kind h0
    have e5 := @L.slE_5 l m kind h0
    have sb := L.sums_bd ho
    generalize L.slE l m kind = E at *
    refine V.FnR.mk_ V.Tok V.mixed Try.func10 rfl Try.ntmps10 (by kernel_rfl) rfl rfl rfl rfl ?_
    repeat' ((conv => whnf); first | (refine V.NIf.yes ?_ ?_; · (decide; done)) | (refine V.NIf.no ?_ ?_; · (decide; done)) | refine V.NCond.mk ?_ | refine V.NIf.not_ ?_ | refine V.NIf.dec_ ?_ | refine V.NIf.no (by omega) ?_ | refine V.NIf.yes (by omega) ?_ | refine V.NIf.mk (fun _ => ?_) (fun _ => ?_) | refine V.NWrap.ok (by omega) (by omega) ?_ | refine V.NWrap.u64 (by omega) (by omega) ?_ | refine V.NLt.mk (by omega) ?_ | refine V.NBoth.mk ?_ ?_ | refine V.NTF.yes (by omega) ?_ | refine V.NTF.no (by omega) ?_ | refine V.NTF.dec ?_ | refine V.NDraw.q (by exact rfl) (by kernel_rfl) ?_ | refine V.NApp.one (by first | omega | (simp; omega)) (by first | omega | (simp; omega)) ?_ | ((first | refine V.Fn.k (ck) [0] rfl ?_ ?_ | refine V.Fn.q (ck) [0] rfl ?_ ?_ | refine V.Fn.a (ck) [0] rfl ?_ ?_); · ((repeat' (first | exact rfl | exact Iff.rfl | exact trivial | exact (fun _ _ => rfl) | exact (fun _ h => absurd h (Nat.not_lt_zero _)) | refine ⟨?_, ?_⟩ | exact Iff.rfl | exact congrArg (fun z => V.SV.one (V.At.val (Value.int .i64 z))) (by omega))); done)) | (refine V.NCall.inl (f := 19) V.Tok V.mixed Try.func19 rfl Try.ntmps19 (by kernel_rfl) rfl ?_) | ((first | refine V.Fn.k (vu) [0] rfl ?_ ?_ | refine V.Fn.q (vu) [0] rfl ?_ ?_ | refine V.Fn.a (vu) [0] rfl ?_ ?_); · ((repeat' (first | exact rfl | exact Iff.rfl | exact trivial | exact (fun _ _ => rfl) | exact (fun _ h => absurd h (Nat.not_lt_zero _)) | refine ⟨?_, ?_⟩ | exact Iff.rfl | exact congrArg (fun z => V.SV.one (V.At.val (Value.int .i64 z))) (by omega))); done)) | (refine V.NDraw.any (by kernel_rfl) ?_) | fail)
    all_goals (conv => whnf)
    all_goals (have three : (([[V.At.clo 28 []], [V.At.clo 29 []], [V.At.clo 30 []]] : List (List V.At)).length : Int) = 3 := rfl)
    · rw [e2 (by omega)]
      exact NRet.mk_ [some 2] rfl ⟨rfl, rfl, rfl, trivial⟩ ⟨⟨rfl, rfl, rfl, fun k hk => absurd hk (Nat.not_lt_zero _)⟩, trivial⟩
    · rw [e2 (by omega)]
      exact NRet.mk_ [some 4] rfl ⟨rfl, rfl, rfl, trivial⟩ ⟨⟨rfl, rfl, rfl, fun k hk => absurd hk (Nat.not_lt_zero _)⟩, trivial⟩
    · rw [e3 (by omega) (by omega)]
      exact NRet.mk_ [some 4] rfl ⟨rfl, rfl, rfl, trivial⟩ ⟨⟨rfl, rfl, rfl, fun k hk => absurd hk (Nat.not_lt_zero _)⟩, trivial⟩
    · rw [e3 (by omega) (by omega)]
      exact NRet.mk_ [some 4] rfl ⟨rfl, rfl, rfl, trivial⟩ ⟨⟨rfl, rfl, rfl, fun k hk => absurd hk (Nat.not_lt_zero _)⟩, trivial⟩
    · rw [e4 (by omega) (by omega) (by omega)]
      exact NRet.mk_ [some 4] rfl ⟨rfl, rfl, rfl, trivial⟩ ⟨⟨rfl, rfl, rfl, fun k hk => absurd hk (Nat.not_lt_zero _)⟩, trivial⟩
    · exact absurd (e5 (by omega) (by omega) (by omega)) h
  · rw [L.slE_1 h0] at *
    refine V.FnR.mk_ V.Tok V.mixed Try.func10 rfl Try.ntmps10 (by kernel_rfl) rfl rfl rfl rfl ?_
    repeat' ((conv => whnf); first | (refine V.NIf.yes ?_ ?_; · (decide; done)) | (refine V.NIf.no ?_ ?_; · (decide; done)) | refine V.NCond.mk ?_ | refine V.NIf.not_ ?_ | refine V.NIf.dec_ ?_ | refine V.NIf.no (by omega) ?_ | refine V.NIf.yes (by omega) ?_ | refine V.NIf.mk (fun _ => ?_) (fun _ => ?_) | refine V.NWrap.ok (by omega) (by omega) ?_ | refine V.NWrap.u64 (by omega) (by omega) ?_ | refine V.NLt.mk (by omega) ?_ | refine V.NBoth.mk ?_ ?_ | refine V.NTF.yes (by omega) ?_ | refine V.NTF.no (by omega) ?_ | refine V.NTF.dec ?_ | refine V.NDraw.q (by exact rfl) (by kernel_rfl) ?_ | refine V.NApp.one (by first | omega | (simp; omega)) (by first | omega | (simp; omega)) ?_ | ((first | refine V.Fn.k (ck) [0] rfl ?_ ?_ | refine V.Fn.q (ck) [0] rfl ?_ ?_ | refine V.Fn.a (ck) [0] rfl ?_ ?_); · ((repeat' (first | exact rfl | exact Iff.rfl | exact trivial | exact (fun _ _ => rfl) | exact (fun _ h => absurd h (Nat.not_lt_zero _)) | refine ⟨?_, ?_⟩ | exact Iff.rfl | exact congrArg (fun z => V.SV.one (V.At.val (Value.int .i64 z))) (by omega))); done)) | (refine V.NDraw.any (by kernel_rfl) ?_) | fail)
    all_goals (conv => whnf)
    all_goals exact NRet.mk_ [some 2] rfl ⟨rfl, rfl, rfl, trivial⟩ ⟨⟨rfl, rfl, rfl, fun k hk => absurd hk (Nat.not_lt_zero _)⟩, trivial⟩
theorem v_ltSell (l : List Lt) (m kind : Int) (hn : l.length ≤ 9223372036854775807) : V.FnR Try.prog 10 [.arr 3 l.length (ga encL l)] [.one (.ref 0), .one (.val (.int .i64 m)), .one (.val (.int .i64 kind))] (.tup [.one (.ref 1), .one (.val (.int .i64 (L.slC l m kind))), .one (.val (.int .i64 (L.slE l m kind)))]) [.row 24 3 (L.slL l m kind).length (ga encL (L.slL l m kind))] := by
  by_cases h : L.slE l m kind = 0
  · obtain ⟨e1, e2⟩ := L.sl_yes h
    rw [e1, e2, h]
    have h0 : L.chk l = 0 := Classical.byContradiction fun q => by rw [L.slE_1 q] at h; exact q h
    have hk : ¬ (kind < 1 ∨ 3 < kind) := fun q => by rw [L.slE_2 h0 q] at h; omega
    have hm : ¬ (m < 1 ∨ 42949672960 < m) := fun q => by rw [L.slE_3 h0 hk q] at h; omega
    have hu : ¬ L.un l < m := fun q => by rw [L.slE_4 h0 hk hm q] at h; omega
    have hm' : 1 ≤ m ∧ m ≤ 42949672960 := by omega
    have hu' : m ≤ L.un l := by omega
    rcases (by omega : kind = 1 ∨ kind = 2 ∨ kind = 3) with rfl | rfl | rfl
    · exact v_ltSell1 l m h0 hm' hu'
    · exact v_ltSell2 l m h0 hm' hu'
    · exact v_ltSell3 l m h0 hm' hu'
  · obtain ⟨e1, e2⟩ := L.sl_no h
    rw [e1, e2]
    exact v_ltSellN l m kind hn h
end Go.Proofs.Yticbaaigcmmggaa

/- The document's sale of lots. -/
namespace Go.Proofs.Yticbaaigcmmggaa
open Go Go.RowKit V
set_option maxRecDepth 100000
set_option linter.unusedVariables false
set_option linter.unusedSimpArgs false
set_option maxHeartbeats 4000000
namespace L
theorem dear_gt {ac au bc bu qa qb : Int} (ha : 0 ≤ ac) (hb : 0 ≤ bc) (ua : 1 ≤ au) (ub : 1 ≤ bu) (ea : qa = ac / au) (eb : qb = bc / bu) (h : qb < qa) : bc * au < ac * bu := by
  have a1 : qa * au ≤ ac := by rw [ea]; exact Int.ediv_mul_le ac (by omega)
  have b1 : bc < (qb + 1) * bu := by rw [eb]; exact Int.lt_ediv_add_one_mul_self bc (by omega)
  have c1 : bc < qa * bu := Int.lt_of_lt_of_le b1 (Int.mul_le_mul_of_nonneg_right (by omega) (by omega))
  have c2 : bc * au < qa * bu * au := Int.mul_lt_mul_of_pos_right c1 (by omega)
  have c3 : qa * au * bu ≤ ac * bu := Int.mul_le_mul_of_nonneg_right a1 (by omega)
  have e : qa * bu * au = qa * au * bu := by grind
  omega
theorem dear_eq {ac au bc bu q ra rb : Int} (ea : ac = q * au + ra) (eb : bc = q * bu + rb) : (rb * au < ra * bu ↔ bc * au < ac * bu) := by
  have e : ac * bu - bc * au = ra * bu - rb * au := by subst ea eb; grind
  omega
theorem dear_1 {ac au bc bu : Int} (h : ac / au = bc / bu) : (bc % bu * au < ac % au * bu ↔ bc * au < ac * bu) :=
  dear_eq (q := ac / au) (by have := Int.mul_ediv_add_emod ac au; rw [Int.mul_comm] at this; omega) (by have := Int.mul_ediv_add_emod bc bu; rw [Int.mul_comm, ← h] at this; omega)
theorem dear_2 {ac au bc bu : Int} (ha : 0 ≤ ac) (hb : 0 ≤ bc) (ua : 1 ≤ au) (ub : 1 ≤ bu) (h : ¬ ac / au = bc / bu) : (bc / bu < ac / au ↔ bc * au < ac * bu) := by
  constructor
  · exact dear_gt ha hb ua ub rfl rfl
  · intro k
    refine Classical.byContradiction fun q => ?_
    have := dear_gt hb ha ub ua rfl rfl (show ac / au < bc / bu by omega)
    omega
theorem m30 {x y : Int} {K : Int → Prop} (h1 : 0 ≤ x) (h2 : x ≤ 1073741824) (h3 : 0 ≤ y) (h4 : y ≤ 1073741824) (hK : K (x * y)) : V.NWrap .i64 (x * y) K := by
  have a : x * y ≤ 1073741824 * 1073741824 := Int.mul_le_mul (by omega) (by omega) (by omega) (by omega)
  have b : 0 ≤ x * y := Int.mul_nonneg (by omega) (by omega)
  exact V.NWrap.ok (by omega) (by omega) hK
end L
theorem v_dearer (a b : Lt) (ha : L.Ok a) (hb : L.Ok b) : V.Fn Try.prog 24 [] [.agg [.val (.int .i64 a.day), .val (.int .i64 a.un), .val (.int .i64 a.co)], .agg [.val (.int .i64 b.day), .val (.int .i64 b.un), .val (.int .i64 b.co)]] (.bool (decide (b.co * a.un < a.co * b.un))) := by
  unfold L.Ok at ha hb
  refine V.Fn.mk_ V.Tok V.mixed Try.func24 rfl Try.ntmps24 (by kernel_rfl) rfl rfl ?_
  have d1 := @L.dear_1 a.co a.un b.co b.un
  have d2 := @L.dear_2 a.co a.un b.co b.un (by omega) (by omega) (by omega) (by omega)
  have r1 := Int.emod_lt_of_pos a.co (b := a.un) (by omega)
  have r2 := Int.emod_nonneg a.co (b := a.un) (by omega)
  have r3 := Int.emod_lt_of_pos b.co (b := b.un) (by omega)
  have r4 := Int.emod_nonneg b.co (b := b.un) (by omega)
  repeat' ((conv => whnf); first | refine V.NCond.mk ?_ | refine V.NIf.not_ ?_ | refine V.NIf.dec_ ?_ | refine V.NIf.no (by omega) ?_ | refine V.NIf.yes (by omega) ?_ | refine V.NIf.mk (fun _ => ?_) (fun _ => ?_) | refine V.NWrap.ok (by omega) (by omega) ?_ | refine V.NWrap.u64 (by omega) (by omega) ?_ | refine V.NLt.mk (by omega) ?_ | refine V.NBoth.mk ?_ ?_ | refine V.NTF.yes (by omega) ?_ | refine V.NTF.no (by omega) ?_ | refine V.NTF.dec ?_ | refine V.NDraw.q (by exact rfl) (by kernel_rfl) ?_ | refine V.NApp.one (by first | omega | (simp; omega)) (by first | omega | (simp; omega)) ?_ | (refine NQuo.pos (by omega) (by omega) (by omega) ?_; rintro _ rfl _ _) | (refine NRem.pos (by omega) (by omega) ?_; rintro _ rfl _ _) | (refine L.m30 (by omega) (by omega) (by omega) (by omega) ?_) | (refine V.NDraw.any (by kernel_rfl) ?_) | fail)
  all_goals (conv => whnf)
  · exact ⟨_, rfl, (d1 (by assumption)).trans decide_eq_true_iff.symm⟩
  · exact ⟨_, rfl, (d2 (by assumption)).trans decide_eq_true_iff.symm⟩
theorem v_rltSell0 (l : List Lt) (kind : Int) (h40 : l.length ≤ 40) : V.FnR Try.prog 14 [.arr 3 l.length (ga encL l)] [.one (.ref 0), .one (.val (.int .i64 0)), .one (.val (.int .i64 kind))] (.tup [.one (.ref 1), .one (.val (.int .i64 (L.sell kind l.length l 0).2))]) [.row 24 3 (L.sell kind l.length l 0).1.length (ga encL (L.sell kind l.length l 0).1)] := by
  rw [L.sell_end kind _ l (Int.le_refl 0)]
  refine V.FnR.mk_ V.Tok V.mixed Try.func14 rfl Try.ntmps14 (by kernel_rfl) rfl rfl rfl rfl ?_
  repeat' ((conv => whnf); first | refine V.NCond.mk ?_ | refine V.NIf.not_ ?_ | refine V.NIf.dec_ ?_ | refine V.NIf.no (by omega) ?_ | refine V.NIf.yes (by omega) ?_ | refine V.NIf.mk (fun _ => ?_) (fun _ => ?_) | refine V.NWrap.ok (by omega) (by omega) ?_ | refine V.NWrap.u64 (by omega) (by omega) ?_ | refine V.NLt.mk (by omega) ?_ | refine V.NBoth.mk ?_ ?_ | refine V.NTF.yes (by omega) ?_ | refine V.NTF.no (by omega) ?_ | refine V.NTF.dec ?_ | refine V.NDraw.q (by exact rfl) (by kernel_rfl) ?_ | refine V.NApp.one (by first | omega | (simp; omega)) (by first | omega | (simp; omega)) ?_ | (refine NOne.mk ?_ ?_; · (intro k hk; rfl)) | (refine NApp.all_ (en := encL) (m := l) (by first | omega | (simp; omega)) (by omega) ?_) | (refine V.NDraw.any (by kernel_rfl) ?_) | fail)
  all_goals (conv => whnf)
  exact NRet.mk_ [some 3] rfl ⟨rfl, rfl, trivial⟩ ⟨⟨rfl, rfl, rfl, fun k hk => rfl⟩, trivial⟩
end Go.Proofs.Yticbaaigcmmggaa

/- A contract over an empty list, of a call that is handed nil. -/
namespace Go.Proofs.Yticbaaigcmmggaa.V
open Go Go.RowKit
set_option linter.unusedVariables false
/-- nil in the place of object n -/
def aN (n : Nat) : At → At
  | .ref j => if j = n then .val (.slice none 0 0) else .ref j
  | a => a
def aNok (n : Nat) : At → Bool
  | .ptr i _ _ _ => i != n
  | .clo _ _ => false
  | _ => true
def sN (n : Nat) : SV → SV
  | .one a => .one (aN n a)
  | .agg l => .agg (l.map (aN n))
  | .tup l => .tup l
def sNok (n : Nat) : SV → Bool
  | .one a => aNok n a
  | .agg l => l.all (aNok n)
  | .tup _ => false
def rN (n : Nat) (ρ : Rho) : Rho := fun i => if i = n then some (.slice none 0 0) else ρ i
theorem At.nil_ {n : Nat} {ρ : Rho} {a : At} {x : Value} (hk : aNok n a = true) (h : (aN n a).is ρ x) : a.is (rN n ρ) x := by
  cases a with
  | val v => exact h
  | tf b => exact h
  | prop p => exact h
  | clo f c => cases hk
  | ptr i k j s =>
    have hne : i ≠ n := by simpa [aNok] using hk
    obtain ⟨b, e, q⟩ := h
    refine ⟨b, ?_, q⟩
    unfold base rN at *
    rw [if_neg hne]; exact e
  | ref i =>
    by_cases e : i = n
    · have h : (aN n (.ref i)).is ρ x := h
      rw [show aN n (.ref i) = .val (.slice none 0 0) from if_pos e] at h
      have h : x = .slice none 0 0 := h
      subst h
      exact ⟨if_pos e, rfl⟩
    · have h : (aN n (.ref i)).is ρ x := h
      rw [show aN n (.ref i) = .ref i from if_neg e] at h
      exact ⟨(if_neg e).trans h.1, h.2⟩
theorem Ats.nil_ {n : Nat} {ρ : Rho} : ∀ {l : List At} {xs : List Value}, l.all (aNok n) = true → Ats ρ (l.map (aN n)) xs → Ats (rN n ρ) l xs
  | [], _, _, h => h
  | a :: l, _, hk, ⟨x, r, e, h, hr⟩ => by
    simp only [List.all_cons, Bool.and_eq_true] at hk
    exact ⟨x, r, e, At.nil_ hk.1 h, Ats.nil_ hk.2 hr⟩
theorem Svs.nilv {n : Nat} {ρ : Rho} : ∀ {l : List SV} {xs : List Value}, l.all (sNok n) = true → Svs ρ (l.map (sN n)) xs → Svs (rN n ρ) l xs
  | [], _, _, h => h
  | a :: l, _, hk, ⟨x, r, e, h, hr⟩ => by
    simp only [List.all_cons, Bool.and_eq_true] at hk
    refine ⟨x, r, e, ?_, Svs.nilv hk.2 hr⟩
    cases a with
    | one a => exact At.nil_ (n := n) hk.1 h
    | agg c => obtain ⟨cs, hc, e⟩ := h; exact ⟨cs, Ats.nil_ hk.1 hc, e⟩
    | tup c => exact h
/-- the last of the objects: nil -/
theorem Fn.nilv {P : Program} {f : FuncId} {os : List Ob} {args : List SV} {x : Value} {s : Nat} {g : Nat → List Value} (h : Fn P f (os ++ [.arr s 0 g]) args x) (hk : args.all (sNok os.length) = true) : Fn P f os (args.map (sN os.length)) x :=
  ⟨h.b, fun w ρ xs ho hs => h.c w (rN os.length ρ) xs (fun i o e => by
    rcases Nat.lt_trichotomy i os.length with q | q | q
    · rw [List.getElem?_append_left q] at e
      obtain ⟨v, hv, r⟩ := ho i o e
      exact ⟨v, (if_neg (by omega)).trans hv, r⟩
    · subst q
      rw [List.getElem?_append_right (Nat.le_refl _), Nat.sub_self] at e
      obtain rfl := Option.some.inj e
      exact ⟨_, if_pos rfl, none, 0, rfl, by omega, by omega, fun k hk => by omega⟩
    · rw [List.getElem?_eq_none (by simp; omega)] at e; cases e) (Svs.nilv hk hs)⟩
/-- an append, told as a list -/
theorem NApp.to_ {α : Type} [Inhabited α] {en : α → List Value} {n m : Nat} (l' : List α) {get news : Nat → List Value} {bytes : Nat} {K : Nat → (Nat → List Value) → Prop} (h : n + m = l'.length) (hb : l'.length ≤ 9223372036854775807) (hr : l'.length * bytes ≤ 140737488355328) (h1 : ∀ k, k < n → ga en l' k = get k) (h2 : ∀ k, k < m → ga en l' (n + k) = news k) (hK : K l'.length (ga en l')) : NApp n m get news bytes K :=
  ⟨⟨_, _, h.symm, hb, hr, h1, h2, hK⟩⟩
theorem ga_take {α : Type} [Inhabited α] {en : α → List Value} {l : List α} {i k : Nat} (h : k < i) (hl : i ≤ l.length) : ga en (l.take i) k = ga en l k := by
  rw [ga_at (by rw [List.length_take]; omega), ga_at (by omega), List.getElem_take]
theorem ga_left {α : Type} [Inhabited α] {en : α → List Value} {l r : List α} {k : Nat} (h : k < l.length) : ga en (l ++ r) k = ga en l k := by
  rw [ga_at (by simp; omega), ga_at h, List.getElem_append_left h]
theorem ga_right {α : Type} [Inhabited α] {en : α → List Value} {l r : List α} {n k : Nat} (hn : n = l.length) (h : k < r.length) : ga en (l ++ r) (n + k) = ga en r k := by
  subst hn
  rw [ga_at (by simp; omega), ga_at h, List.getElem_append_right (by omega)]
  congr 2
  omega
theorem ga_drop {α : Type} [Inhabited α] {en : α → List Value} {l : List α} {i k : Nat} (h : i + k < l.length) : ga en (l.drop i) k = ga en l (i + k) := by
  rw [ga_at (by simp; omega), ga_at h, List.getElem_drop]
end Go.Proofs.Yticbaaigcmmggaa.V

/- The document's sale of lots, a step. -/
namespace Go.Proofs.Yticbaaigcmmggaa
open Go Go.RowKit V
set_option maxRecDepth 100000
set_option linter.unusedVariables false
set_option linter.unusedSimpArgs false
set_option maxHeartbeats 4000000
theorem v_rltStep2 (l : List Lt) (m : Int) (h40 : l.length ≤ 40) (ho : ∀ x ∈ l, L.Ok x) (h0 : 0 < m) (hm : m ≤ L.un l)
    (ih : ∀ (l' : List Lt) (m' : Int), l'.length + 1 = l.length → l'.length ≤ 40 → (∀ x ∈ l', L.Ok x) → 0 ≤ m' → m' ≤ L.un l' → V.FnR Try.prog 14 [.arr 3 l'.length (ga encL l')] [.one (.ref 0), .one (.val (.int .i64 m')), .one (.val (.int .i64 2))] (.tup [.one (.ref 1), .one (.val (.int .i64 (L.sell 2 l'.length l' m').2))]) [.row 24 3 (L.sell 2 l'.length l' m').1.length (ga encL (L.sell 2 l'.length l' m').1)]) :
    V.FnR Try.prog 14 [.arr 3 l.length (ga encL l)] [.one (.ref 0), .one (.val (.int .i64 m)), .one (.val (.int .i64 2))] (.tup [.one (.ref 1), .one (.val (.int .i64 (L.sell 2 l.length l m).2))]) [.row 24 3 (L.sell 2 l.length l m).1.length (ga encL (L.sell 2 l.length l m).1)] := by
  have pos : 0 < l.length := by
    cases l with
    | nil => simp [L.un] at hm; omega
    | cons a r => simp
  have sb := L.sums_bd ho
  have hi : L.pick 2 l < l.length := L.pick_lt pos
  have sa := @L.sell_all 2 (l.length - 1) l m h0
  have sp := @L.sell_part 2 (l.length - 1) l m h0
  rw [Nat.sub_add_cancel pos] at sa sp
  have pe : L.pick 2 l = l.length - 1 := rfl
  generalize L.pick 2 l = i at *
  have ox := ho _ (getD_mem (l := l) hi)
  have ua := L.un_at hi
  have lm := @L.mem_less l i
  unfold L.Ok at ox
  by_cases hx : (l.getD i default).un ≤ m
  · have sa := sa hx
    clear sp
    have dl : (l.take i ++ l.drop (i + 1)).length = l.length - 1 := by simp; omega
    have g1 : ∀ j, j < i → ga encL (l.take i) (0 + j) = ga encL l (0 + j) := fun j hj => V.ga_take (by omega) (by omega)
    have g2 : ∀ j, j < i → ga encL (l.take i ++ l.drop (i + 1)) j = ga encL (l.take i) j := fun j hj => V.ga_left (by rw [List.length_take]; omega)
    have g3 : ∀ j, j < l.length - (i + 1) → ga encL (l.take i ++ l.drop (i + 1)) (i + j) = ga encL l (i + 1 + j) := fun j hj => by
      rw [V.ga_right (by rw [List.length_take]; omega) (by simp; omega), V.ga_drop (by omega)]
    have lt : (l.take i).length = i := by rw [List.length_take]; omega
    generalize l.take i ++ l.drop (i + 1) = del at *
    have sd := L.sell_keeps 2 del.length del (m - (l.getD i default).un) (Nat.le_refl _) (fun x hx => ho x (lm hx)) (by omega) (by omega)
    have c1 := ih del (m - (l.getD i default).un) (by omega) (by omega) (fun x hx => ho x (lm hx)) (by omega) (by omega)
    have sd2 : 0 ≤ (L.sell 2 del.length del (m - (l.getD i default).un)).2 ∧ (L.sell 2 del.length del (m - (l.getD i default).un)).2 ≤ 171798691840 := by
      have := (L.sums_bd (l := (L.sell 2 del.length del (m - (l.getD i default).un)).1) sd.2.2.2.2).2.2.1
      omega
    rw [Int.add_comm] at sa
    rw [sa]
    rw [← dl]
    clear ih sa sd lm
    generalize L.sell 2 del.length del (m - (l.getD i default).un) = R at *
    refine V.FnR.mk_ V.Tok V.mixed Try.func14 rfl Try.ntmps14 (by kernel_rfl) rfl rfl rfl rfl ?_
    repeat' ((conv => whnf); first | (refine V.NIf.yes ?_ ?_; · (decide; done)) | (refine V.NIf.no ?_ ?_; · (decide; done)) | refine V.NCond.mk ?_ | refine V.NIf.not_ ?_ | refine V.NIf.dec_ ?_ | refine V.NIf.no (by omega) ?_ | refine V.NIf.yes (by omega) ?_ | refine V.NIf.mk (fun _ => ?_) (fun _ => ?_) | refine V.NWrap.ok (by omega) (by omega) ?_ | refine V.NWrap.u64 (by omega) (by omega) ?_ | refine V.NLt.mk (by omega) ?_ | refine V.NBoth.mk ?_ ?_ | refine V.NTF.yes (by omega) ?_ | refine V.NTF.no (by omega) ?_ | refine V.NTF.dec ?_ | refine V.NDraw.q (by exact rfl) (by kernel_rfl) ?_ | refine V.NApp.one (by first | omega | (simp; omega)) (by first | omega | (simp; omega)) ?_ | (refine V.NDraw.any (by kernel_rfl) ?_) | fail)
    all_goals (conv => whnf)
    refine V.NLoop.auto (fun (u : Nat) => [(9, .one (.val (.int .i64 0))), (8, .one (.val (.int .i64 i)))]) (fun (u : Nat) => []) [] [] (fun (u : Nat) => 0) (fun (u : Nat) => u = 0) 0 rfl (by repeat' (first | exact rfl | exact Iff.rfl | exact trivial | exact (fun _ _ => rfl) | exact (fun _ h => absurd h (Nat.not_lt_zero _)) | refine ⟨?_, ?_⟩ | exact Iff.rfl | exact congrArg (fun z => V.SV.one (V.At.val (Value.int .i64 z))) (by omega))) (by repeat' (first | exact rfl | exact Iff.rfl | exact trivial | exact (fun _ _ => rfl) | exact (fun _ h => absurd h (Nat.not_lt_zero _)) | refine ⟨?_, ?_⟩ | exact Iff.rfl | exact congrArg (fun z => V.SV.one (V.At.val (Value.int .i64 z))) (by omega))) (fun _ => ⟨rfl, rfl⟩) ?_; (conv => whnf); refine ⟨⟨rfl, rfl⟩, ?_⟩
    rintro u rfl
    repeat' ((conv => whnf); first | (refine V.NIf.yes ?_ ?_; · (decide; done)) | (refine V.NIf.no ?_ ?_; · (decide; done)) | refine V.NCond.mk ?_ | refine V.NIf.not_ ?_ | refine V.NIf.dec_ ?_ | refine V.NIf.no (by omega) ?_ | refine V.NIf.yes (by omega) ?_ | refine V.NIf.mk (fun _ => ?_) (fun _ => ?_) | refine V.NWrap.ok (by omega) (by omega) ?_ | refine V.NWrap.u64 (by omega) (by omega) ?_ | refine V.NLt.mk (by omega) ?_ | refine V.NBoth.mk ?_ ?_ | refine V.NTF.yes (by omega) ?_ | refine V.NTF.no (by omega) ?_ | refine V.NTF.dec ?_ | refine V.NDraw.q (by exact rfl) (by kernel_rfl) ?_ | refine V.NApp.one (by first | omega | (simp; omega)) (by first | omega | (simp; omega)) ?_ | (refine NIdx.mk ⟨i, by omega, by omega, ?_⟩) | (refine NCut.mk ⟨0, i, rfl, rfl, by omega, by omega, ?_⟩) | (refine NCut.mk ⟨i + 1, _, by dsimp only [loIs]; omega, rfl, by omega, by omega, ?_⟩) | (refine NOne.mk ?_ ?_; · (intro k hk; rfl)) | (refine NApp.to_ (en := encL) (l.take i) (by omega) (by omega) (by simp; omega) (fun j hj => absurd hj (Nat.not_lt_zero _)) (fun j hj => g1 j (by omega)) ?_) | (refine NApp.to_ (en := encL) del (by omega) (by omega) (by simp; omega) (fun j hj => g2 j (by omega)) (fun j hj => by rw [lt]; exact g3 j (by omega)) ?_) | (refine V.NDraw.each (by kernel_rfl) ?_) | ((first | refine V.FnR.k_ (c1) [7] rfl ?_ ?_ | refine V.FnR.a_ (c1) [7] rfl ?_ ?_); · ((repeat' (first | exact rfl | exact Iff.rfl | exact trivial | exact (fun _ _ => rfl) | exact (fun _ h => absurd h (Nat.not_lt_zero _)) | refine ⟨?_, ?_⟩ | exact Iff.rfl | exact congrArg (fun z => V.SV.one (V.At.val (Value.int .i64 z))) (by omega))); done)) | (refine V.NDraw.any (by kernel_rfl) ?_) | fail)
    all_goals (conv => whnf)
    all_goals exact NRet.mk_ [some 8] rfl ⟨rfl, rfl, trivial⟩ ⟨⟨rfl, rfl, rfl, fun k hk => rfl⟩, trivial⟩
  · have sp := sp hx
    have pb := L.part_bd (x := l.getD i default) (m := m) ox (by omega) (by omega)
    have pq := v_partOf (l.getD i default).co m (l.getD i default).un (by omega) (by omega) (by omega)
    have po : M.poQ (l.getD i default).co m (l.getD i default).un = L.part (l.getD i default) m := if_neg (by unfold L.part at pb; omega)
    rw [po] at pq
    rw [sp]
    clear ih sa sp ua lm po
    generalize L.part (l.getD i default) m = Q at *
    generalize M.poR (l.getD i default).co m (l.getD i default).un = Q2 at *
    refine V.FnR.mk_ V.Tok V.mixed Try.func14 rfl Try.ntmps14 (by kernel_rfl) rfl rfl rfl rfl ?_
    repeat' ((conv => whnf); first | (refine V.NIf.yes ?_ ?_; · (decide; done)) | (refine V.NIf.no ?_ ?_; · (decide; done)) | refine V.NCond.mk ?_ | refine V.NIf.not_ ?_ | refine V.NIf.dec_ ?_ | refine V.NIf.no (by omega) ?_ | refine V.NIf.yes (by omega) ?_ | refine V.NIf.mk (fun _ => ?_) (fun _ => ?_) | refine V.NWrap.ok (by omega) (by omega) ?_ | refine V.NWrap.u64 (by omega) (by omega) ?_ | refine V.NLt.mk (by omega) ?_ | refine V.NBoth.mk ?_ ?_ | refine V.NTF.yes (by omega) ?_ | refine V.NTF.no (by omega) ?_ | refine V.NTF.dec ?_ | refine V.NDraw.q (by exact rfl) (by kernel_rfl) ?_ | refine V.NApp.one (by first | omega | (simp; omega)) (by first | omega | (simp; omega)) ?_ | (refine V.NDraw.any (by kernel_rfl) ?_) | fail)
    all_goals (conv => whnf)
    refine V.NLoop.auto (fun (u : Nat) => [(9, .one (.val (.int .i64 0))), (8, .one (.val (.int .i64 i)))]) (fun (u : Nat) => []) [] [] (fun (u : Nat) => 0) (fun (u : Nat) => u = 0) 0 rfl (by repeat' (first | exact rfl | exact Iff.rfl | exact trivial | exact (fun _ _ => rfl) | exact (fun _ h => absurd h (Nat.not_lt_zero _)) | refine ⟨?_, ?_⟩ | exact Iff.rfl | exact congrArg (fun z => V.SV.one (V.At.val (Value.int .i64 z))) (by omega))) (by repeat' (first | exact rfl | exact Iff.rfl | exact trivial | exact (fun _ _ => rfl) | exact (fun _ h => absurd h (Nat.not_lt_zero _)) | refine ⟨?_, ?_⟩ | exact Iff.rfl | exact congrArg (fun z => V.SV.one (V.At.val (Value.int .i64 z))) (by omega))) (fun _ => ⟨rfl, rfl⟩) ?_; (conv => whnf); refine ⟨⟨rfl, rfl⟩, ?_⟩
    rintro u rfl
    repeat' ((conv => whnf); first | (refine V.NIf.yes ?_ ?_; · (decide; done)) | (refine V.NIf.no ?_ ?_; · (decide; done)) | refine V.NCond.mk ?_ | refine V.NIf.not_ ?_ | refine V.NIf.dec_ ?_ | refine V.NIf.no (by omega) ?_ | refine V.NIf.yes (by omega) ?_ | refine V.NIf.mk (fun _ => ?_) (fun _ => ?_) | refine V.NWrap.ok (by omega) (by omega) ?_ | refine V.NWrap.u64 (by omega) (by omega) ?_ | refine V.NLt.mk (by omega) ?_ | refine V.NBoth.mk ?_ ?_ | refine V.NTF.yes (by omega) ?_ | refine V.NTF.no (by omega) ?_ | refine V.NTF.dec ?_ | refine V.NDraw.q (by exact rfl) (by kernel_rfl) ?_ | refine V.NApp.one (by first | omega | (simp; omega)) (by first | omega | (simp; omega)) ?_ | (refine NIdx.mk ⟨i, by omega, by omega, ?_⟩) | (first | refine V.Fn.k0 (pq) rfl ?_ | refine V.Fn.q0 (pq) rfl ?_ | refine V.Fn.a0 (pq) rfl ?_) | (refine NOne.mk ?_ ?_; · (intro k hk; rfl)) | (refine NApp.all_ (en := encL) (m := l) (by first | omega | (simp; omega)) (by omega) ?_) | (refine NPut.to ⟨(l.getD i default).day, (l.getD i default).un - m, (l.getD i default).co - Q⟩ rfl rfl ?_) | (refine V.NDraw.any (by kernel_rfl) ?_) | fail)
    all_goals (conv => whnf)
    exact NRet.mk_ [some 4] rfl ⟨rfl, rfl, trivial⟩ ⟨⟨rfl, rfl, List.length_set.symm, fun k hk => rfl⟩, trivial⟩
end Go.Proofs.Yticbaaigcmmggaa

/- The document's sale of lots, a step. -/
namespace Go.Proofs.Yticbaaigcmmggaa
open Go Go.RowKit V
set_option maxRecDepth 100000
set_option linter.unusedVariables false
set_option linter.unusedSimpArgs false
set_option maxHeartbeats 4000000
theorem v_rltStep3 (l : List Lt) (m : Int) (h40 : l.length ≤ 40) (ho : ∀ x ∈ l, L.Ok x) (h0 : 0 < m) (hm : m ≤ L.un l)
    (ih : ∀ (l' : List Lt) (m' : Int), l'.length + 1 = l.length → l'.length ≤ 40 → (∀ x ∈ l', L.Ok x) → 0 ≤ m' → m' ≤ L.un l' → V.FnR Try.prog 14 [.arr 3 l'.length (ga encL l')] [.one (.ref 0), .one (.val (.int .i64 m')), .one (.val (.int .i64 3))] (.tup [.one (.ref 1), .one (.val (.int .i64 (L.sell 3 l'.length l' m').2))]) [.row 24 3 (L.sell 3 l'.length l' m').1.length (ga encL (L.sell 3 l'.length l' m').1)]) :
    V.FnR Try.prog 14 [.arr 3 l.length (ga encL l)] [.one (.ref 0), .one (.val (.int .i64 m)), .one (.val (.int .i64 3))] (.tup [.one (.ref 1), .one (.val (.int .i64 (L.sell 3 l.length l m).2))]) [.row 24 3 (L.sell 3 l.length l m).1.length (ga encL (L.sell 3 l.length l m).1)] := by
  have pos : 0 < l.length := by
    cases l with
    | nil => simp [L.un] at hm; omega
    | cons a r => simp
  have sb := L.sums_bd ho
  have hi : L.pick 3 l < l.length := L.pick_lt pos
  have sa := @L.sell_all 3 (l.length - 1) l m h0
  have sp := @L.sell_part 3 (l.length - 1) l m h0
  rw [Nat.sub_add_cancel pos] at sa sp
  have pe : L.pick 3 l = L.bst l l.length := rfl
  generalize L.pick 3 l = i at *
  have ox := ho _ (getD_mem (l := l) hi)
  have ua := L.un_at hi
  have lm := @L.mem_less l i
  unfold L.Ok at ox
  by_cases hx : (l.getD i default).un ≤ m
  · have sa := sa hx
    clear sp
    have dl : (l.take i ++ l.drop (i + 1)).length = l.length - 1 := by simp; omega
    have g1 : ∀ j, j < i → ga encL (l.take i) (0 + j) = ga encL l (0 + j) := fun j hj => V.ga_take (by omega) (by omega)
    have g2 : ∀ j, j < i → ga encL (l.take i ++ l.drop (i + 1)) j = ga encL (l.take i) j := fun j hj => V.ga_left (by rw [List.length_take]; omega)
    have g3 : ∀ j, j < l.length - (i + 1) → ga encL (l.take i ++ l.drop (i + 1)) (i + j) = ga encL l (i + 1 + j) := fun j hj => by
      rw [V.ga_right (by rw [List.length_take]; omega) (by simp; omega), V.ga_drop (by omega)]
    have lt : (l.take i).length = i := by rw [List.length_take]; omega
    generalize l.take i ++ l.drop (i + 1) = del at *
    have sd := L.sell_keeps 3 del.length del (m - (l.getD i default).un) (Nat.le_refl _) (fun x hx => ho x (lm hx)) (by omega) (by omega)
    have c1 := ih del (m - (l.getD i default).un) (by omega) (by omega) (fun x hx => ho x (lm hx)) (by omega) (by omega)
    have sd2 : 0 ≤ (L.sell 3 del.length del (m - (l.getD i default).un)).2 ∧ (L.sell 3 del.length del (m - (l.getD i default).un)).2 ≤ 171798691840 := by
      have := (L.sums_bd (l := (L.sell 3 del.length del (m - (l.getD i default).un)).1) sd.2.2.2.2).2.2.1
      omega
    rw [Int.add_comm] at sa
    rw [sa]
    rw [← dl]
    clear ih sa sd lm
    generalize L.sell 3 del.length del (m - (l.getD i default).un) = R at *
    refine V.FnR.mk_ V.Tok V.mixed Try.func14 rfl Try.ntmps14 (by kernel_rfl) rfl rfl rfl rfl ?_
    repeat' ((conv => whnf); first | (refine V.NIf.yes ?_ ?_; · (decide; done)) | (refine V.NIf.no ?_ ?_; · (decide; done)) | refine V.NCond.mk ?_ | refine V.NIf.not_ ?_ | refine V.NIf.dec_ ?_ | refine V.NIf.no (by omega) ?_ | refine V.NIf.yes (by omega) ?_ | refine V.NIf.mk (fun _ => ?_) (fun _ => ?_) | refine V.NWrap.ok (by omega) (by omega) ?_ | refine V.NWrap.u64 (by omega) (by omega) ?_ | refine V.NLt.mk (by omega) ?_ | refine V.NBoth.mk ?_ ?_ | refine V.NTF.yes (by omega) ?_ | refine V.NTF.no (by omega) ?_ | refine V.NTF.dec ?_ | refine V.NDraw.q (by exact rfl) (by kernel_rfl) ?_ | refine V.NApp.one (by first | omega | (simp; omega)) (by first | omega | (simp; omega)) ?_ | (refine V.NDraw.any (by kernel_rfl) ?_) | fail)
    all_goals (conv => whnf)
    refine V.NLoop.auto (fun (k : Nat) => [(9, .one (.val (.int .i64 k))), (8, .one (.val (.int .i64 (L.bst l k))))]) (fun (k : Nat) => []) [] [] (fun (k : Nat) => l.length - k) (fun (k : Nat) => k ≤ l.length) 0 (Nat.zero_le _) (by repeat' (first | exact rfl | exact Iff.rfl | exact trivial | exact (fun _ _ => rfl) | exact (fun _ h => absurd h (Nat.not_lt_zero _)) | refine ⟨?_, ?_⟩ | exact Iff.rfl | exact congrArg (fun z => V.SV.one (V.At.val (Value.int .i64 z))) (by omega))) (by repeat' (first | exact rfl | exact Iff.rfl | exact trivial | exact (fun _ _ => rfl) | exact (fun _ h => absurd h (Nat.not_lt_zero _)) | refine ⟨?_, ?_⟩ | exact Iff.rfl | exact congrArg (fun z => V.SV.one (V.At.val (Value.int .i64 z))) (by omega))) (fun _ => ⟨rfl, rfl⟩) ?_; (conv => whnf); refine ⟨⟨rfl, rfl⟩, ?_⟩
    rintro kk hkk
    have bi := L.bst_in l pos hkk
    have bs : L.bst l (kk + 1) = if (l.getD (L.bst l kk) default).co * (l.getD kk default).un < (l.getD kk default).co * (l.getD (L.bst l kk) default).un then kk else L.bst l kk := rfl
    have dr := fun h : kk < l.length => v_dearer (l.getD kk default) (l.getD (L.bst l kk) default) (ho _ (getD_mem h)) (ho _ (getD_mem bi))
    by_cases hlt : kk < l.length
    · have dr := dr hlt
      repeat' ((conv => whnf); first | refine V.NCond.mk ?_ | refine V.NIf.not_ ?_ | refine V.NIf.dec_ ?_ | refine V.NIf.no (by omega) ?_ | refine V.NIf.yes (by omega) ?_ | refine V.NIf.mk (fun _ => ?_) (fun _ => ?_) | refine V.NWrap.ok (by omega) (by omega) ?_ | refine V.NWrap.u64 (by omega) (by omega) ?_ | refine V.NLt.mk (by omega) ?_ | refine V.NBoth.mk ?_ ?_ | refine V.NTF.yes (by omega) ?_ | refine V.NTF.no (by omega) ?_ | refine V.NTF.dec ?_ | refine V.NDraw.q (by exact rfl) (by kernel_rfl) ?_ | refine V.NApp.one (by first | omega | (simp; omega)) (by first | omega | (simp; omega)) ?_ | (refine NIdx.mk ⟨kk, rfl, by omega, ?_⟩) | (refine NIdx.mk ⟨L.bst l kk, rfl, by omega, ?_⟩) | (first | refine V.Fn.k0 (dr) rfl ?_ | refine V.Fn.q0 (dr) rfl ?_ | refine V.Fn.a0 (dr) rfl ?_) | (refine V.NDraw.any (by kernel_rfl) ?_) | fail)
      all_goals (conv => whnf)
      all_goals first
        | exact V.NBack.at_ (kk + 1) [] (by omega) (by omega) ⟨(by repeat' (first | exact rfl | exact Iff.rfl | exact trivial | exact (fun _ _ => rfl) | exact (fun _ h => absurd h (Nat.not_lt_zero _)) | refine ⟨?_, ?_⟩ | exact Iff.rfl | exact congrArg (fun z => V.SV.one (V.At.val (Value.int .i64 z))) (by omega))), congrArg (fun z : Nat => V.SV.one (V.At.val (Value.int .i64 z))) ((if_pos (by assumption)).symm), trivial⟩ rfl (by repeat' (first | exact rfl | exact Iff.rfl | exact trivial | exact (fun _ _ => rfl) | exact (fun _ h => absurd h (Nat.not_lt_zero _)) | refine ⟨?_, ?_⟩ | exact Iff.rfl | exact congrArg (fun z => V.SV.one (V.At.val (Value.int .i64 z))) (by omega))) (by repeat' (first | exact rfl | exact Iff.rfl | exact trivial | exact (fun _ _ => rfl) | exact (fun _ h => absurd h (Nat.not_lt_zero _)) | refine ⟨?_, ?_⟩ | exact Iff.rfl | exact congrArg (fun z => V.SV.one (V.At.val (Value.int .i64 z))) (by omega))) (by repeat' (first | exact rfl | exact Iff.rfl | exact trivial | exact (fun _ _ => rfl) | exact (fun _ h => absurd h (Nat.not_lt_zero _)) | refine ⟨?_, ?_⟩ | exact Iff.rfl | exact congrArg (fun z => V.SV.one (V.At.val (Value.int .i64 z))) (by omega)))
        | exact V.NBack.at_ (kk + 1) [] (by omega) (by omega) ⟨(by repeat' (first | exact rfl | exact Iff.rfl | exact trivial | exact (fun _ _ => rfl) | exact (fun _ h => absurd h (Nat.not_lt_zero _)) | refine ⟨?_, ?_⟩ | exact Iff.rfl | exact congrArg (fun z => V.SV.one (V.At.val (Value.int .i64 z))) (by omega))), congrArg (fun z : Nat => V.SV.one (V.At.val (Value.int .i64 z))) ((if_neg (by assumption)).symm), trivial⟩ rfl (by repeat' (first | exact rfl | exact Iff.rfl | exact trivial | exact (fun _ _ => rfl) | exact (fun _ h => absurd h (Nat.not_lt_zero _)) | refine ⟨?_, ?_⟩ | exact Iff.rfl | exact congrArg (fun z => V.SV.one (V.At.val (Value.int .i64 z))) (by omega))) (by repeat' (first | exact rfl | exact Iff.rfl | exact trivial | exact (fun _ _ => rfl) | exact (fun _ h => absurd h (Nat.not_lt_zero _)) | refine ⟨?_, ?_⟩ | exact Iff.rfl | exact congrArg (fun z => V.SV.one (V.At.val (Value.int .i64 z))) (by omega))) (by repeat' (first | exact rfl | exact Iff.rfl | exact trivial | exact (fun _ _ => rfl) | exact (fun _ h => absurd h (Nat.not_lt_zero _)) | refine ⟨?_, ?_⟩ | exact Iff.rfl | exact congrArg (fun z => V.SV.one (V.At.val (Value.int .i64 z))) (by omega)))
        | trace_state
    obtain rfl : kk = l.length := by omega
    clear bi bs dr hkk
    rw [← pe]
    repeat' ((conv => whnf); first | (refine V.NIf.yes ?_ ?_; · (decide; done)) | (refine V.NIf.no ?_ ?_; · (decide; done)) | refine V.NCond.mk ?_ | refine V.NIf.not_ ?_ | refine V.NIf.dec_ ?_ | refine V.NIf.no (by omega) ?_ | refine V.NIf.yes (by omega) ?_ | refine V.NIf.mk (fun _ => ?_) (fun _ => ?_) | refine V.NWrap.ok (by omega) (by omega) ?_ | refine V.NWrap.u64 (by omega) (by omega) ?_ | refine V.NLt.mk (by omega) ?_ | refine V.NBoth.mk ?_ ?_ | refine V.NTF.yes (by omega) ?_ | refine V.NTF.no (by omega) ?_ | refine V.NTF.dec ?_ | refine V.NDraw.q (by exact rfl) (by kernel_rfl) ?_ | refine V.NApp.one (by first | omega | (simp; omega)) (by first | omega | (simp; omega)) ?_ | (refine NIdx.mk ⟨i, by omega, by omega, ?_⟩) | (refine NCut.mk ⟨0, i, rfl, rfl, by omega, by omega, ?_⟩) | (refine NCut.mk ⟨i + 1, _, by dsimp only [loIs]; omega, rfl, by omega, by omega, ?_⟩) | (refine NOne.mk ?_ ?_; · (intro k hk; rfl)) | (refine NApp.to_ (en := encL) (l.take i) (by omega) (by omega) (by simp; omega) (fun j hj => absurd hj (Nat.not_lt_zero _)) (fun j hj => g1 j (by omega)) ?_) | (refine NApp.to_ (en := encL) del (by omega) (by omega) (by simp; omega) (fun j hj => g2 j (by omega)) (fun j hj => by rw [lt]; exact g3 j (by omega)) ?_) | (refine V.NDraw.each (by kernel_rfl) ?_) | ((first | refine V.FnR.k_ (c1) [7] rfl ?_ ?_ | refine V.FnR.a_ (c1) [7] rfl ?_ ?_); · ((repeat' (first | exact rfl | exact Iff.rfl | exact trivial | exact (fun _ _ => rfl) | exact (fun _ h => absurd h (Nat.not_lt_zero _)) | refine ⟨?_, ?_⟩ | exact Iff.rfl | exact congrArg (fun z => V.SV.one (V.At.val (Value.int .i64 z))) (by omega))); done)) | (refine V.NDraw.any (by kernel_rfl) ?_) | fail)
    all_goals (conv => whnf)
    all_goals exact NRet.mk_ [some 8] rfl ⟨rfl, rfl, trivial⟩ ⟨⟨rfl, rfl, rfl, fun k hk => rfl⟩, trivial⟩
  · have sp := sp hx
    have pb := L.part_bd (x := l.getD i default) (m := m) ox (by omega) (by omega)
    have pq := v_partOf (l.getD i default).co m (l.getD i default).un (by omega) (by omega) (by omega)
    have po : M.poQ (l.getD i default).co m (l.getD i default).un = L.part (l.getD i default) m := if_neg (by unfold L.part at pb; omega)
    rw [po] at pq
    rw [sp]
    clear ih sa sp ua lm po
    generalize L.part (l.getD i default) m = Q at *
    generalize M.poR (l.getD i default).co m (l.getD i default).un = Q2 at *
    refine V.FnR.mk_ V.Tok V.mixed Try.func14 rfl Try.ntmps14 (by kernel_rfl) rfl rfl rfl rfl ?_
    repeat' ((conv => whnf); first | (refine V.NIf.yes ?_ ?_; · (decide; done)) | (refine V.NIf.no ?_ ?_; · (decide; done)) | refine V.NCond.mk ?_ | refine V.NIf.not_ ?_ | refine V.NIf.dec_ ?_ | refine V.NIf.no (by omega) ?_ | refine V.NIf.yes (by omega) ?_ | refine V.NIf.mk (fun _ => ?_) (fun _ => ?_) | refine V.NWrap.ok (by omega) (by omega) ?_ | refine V.NWrap.u64 (by omega) (by omega) ?_ | refine V.NLt.mk (by omega) ?_ | refine V.NBoth.mk ?_ ?_ | refine V.NTF.yes (by omega) ?_ | refine V.NTF.no (by omega) ?_ | refine V.NTF.dec ?_ | refine V.NDraw.q (by exact rfl) (by kernel_rfl) ?_ | refine V.NApp.one (by first | omega | (simp; omega)) (by first | omega | (simp; omega)) ?_ | (refine V.NDraw.any (by kernel_rfl) ?_) | fail)
    all_goals (conv => whnf)
    refine V.NLoop.auto (fun (k : Nat) => [(9, .one (.val (.int .i64 k))), (8, .one (.val (.int .i64 (L.bst l k))))]) (fun (k : Nat) => []) [] [] (fun (k : Nat) => l.length - k) (fun (k : Nat) => k ≤ l.length) 0 (Nat.zero_le _) (by repeat' (first | exact rfl | exact Iff.rfl | exact trivial | exact (fun _ _ => rfl) | exact (fun _ h => absurd h (Nat.not_lt_zero _)) | refine ⟨?_, ?_⟩ | exact Iff.rfl | exact congrArg (fun z => V.SV.one (V.At.val (Value.int .i64 z))) (by omega))) (by repeat' (first | exact rfl | exact Iff.rfl | exact trivial | exact (fun _ _ => rfl) | exact (fun _ h => absurd h (Nat.not_lt_zero _)) | refine ⟨?_, ?_⟩ | exact Iff.rfl | exact congrArg (fun z => V.SV.one (V.At.val (Value.int .i64 z))) (by omega))) (fun _ => ⟨rfl, rfl⟩) ?_; (conv => whnf); refine ⟨⟨rfl, rfl⟩, ?_⟩
    rintro kk hkk
    have bi := L.bst_in l pos hkk
    have bs : L.bst l (kk + 1) = if (l.getD (L.bst l kk) default).co * (l.getD kk default).un < (l.getD kk default).co * (l.getD (L.bst l kk) default).un then kk else L.bst l kk := rfl
    have dr := fun h : kk < l.length => v_dearer (l.getD kk default) (l.getD (L.bst l kk) default) (ho _ (getD_mem h)) (ho _ (getD_mem bi))
    by_cases hlt : kk < l.length
    · have dr := dr hlt
      repeat' ((conv => whnf); first | refine V.NCond.mk ?_ | refine V.NIf.not_ ?_ | refine V.NIf.dec_ ?_ | refine V.NIf.no (by omega) ?_ | refine V.NIf.yes (by omega) ?_ | refine V.NIf.mk (fun _ => ?_) (fun _ => ?_) | refine V.NWrap.ok (by omega) (by omega) ?_ | refine V.NWrap.u64 (by omega) (by omega) ?_ | refine V.NLt.mk (by omega) ?_ | refine V.NBoth.mk ?_ ?_ | refine V.NTF.yes (by omega) ?_ | refine V.NTF.no (by omega) ?_ | refine V.NTF.dec ?_ | refine V.NDraw.q (by exact rfl) (by kernel_rfl) ?_ | refine V.NApp.one (by first | omega | (simp; omega)) (by first | omega | (simp; omega)) ?_ | (refine NIdx.mk ⟨kk, rfl, by omega, ?_⟩) | (refine NIdx.mk ⟨L.bst l kk, rfl, by omega, ?_⟩) | (first | refine V.Fn.k0 (dr) rfl ?_ | refine V.Fn.q0 (dr) rfl ?_ | refine V.Fn.a0 (dr) rfl ?_) | (refine V.NDraw.any (by kernel_rfl) ?_) | fail)
      all_goals (conv => whnf)
      all_goals first
        | exact V.NBack.at_ (kk + 1) [] (by omega) (by omega) ⟨(by repeat' (first | exact rfl | exact Iff.rfl | exact trivial | exact (fun _ _ => rfl) | exact (fun _ h => absurd h (Nat.not_lt_zero _)) | refine ⟨?_, ?_⟩ | exact Iff.rfl | exact congrArg (fun z => V.SV.one (V.At.val (Value.int .i64 z))) (by omega))), congrArg (fun z : Nat => V.SV.one (V.At.val (Value.int .i64 z))) ((if_pos (by assumption)).symm), trivial⟩ rfl (by repeat' (first | exact rfl | exact Iff.rfl | exact trivial | exact (fun _ _ => rfl) | exact (fun _ h => absurd h (Nat.not_lt_zero _)) | refine ⟨?_, ?_⟩ | exact Iff.rfl | exact congrArg (fun z => V.SV.one (V.At.val (Value.int .i64 z))) (by omega))) (by repeat' (first | exact rfl | exact Iff.rfl | exact trivial | exact (fun _ _ => rfl) | exact (fun _ h => absurd h (Nat.not_lt_zero _)) | refine ⟨?_, ?_⟩ | exact Iff.rfl | exact congrArg (fun z => V.SV.one (V.At.val (Value.int .i64 z))) (by omega))) (by repeat' (first | exact rfl | exact Iff.rfl | exact trivial | exact (fun _ _ => rfl) | exact (fun _ h => absurd h (Nat.not_lt_zero _)) | refine ⟨?_, ?_⟩ | exact Iff.rfl | exact congrArg (fun z => V.SV.one (V.At.val (Value.int .i64 z))) (by omega)))
        | exact V.NBack.at_ (kk + 1) [] (by omega) (by omega) ⟨(by repeat' (first | exact rfl | exact Iff.rfl | exact trivial | exact (fun _ _ => rfl) | exact (fun _ h => absurd h (Nat.not_lt_zero _)) | refine ⟨?_, ?_⟩ | exact Iff.rfl | exact congrArg (fun z => V.SV.one (V.At.val (Value.int .i64 z))) (by omega))), congrArg (fun z : Nat => V.SV.one (V.At.val (Value.int .i64 z))) ((if_neg (by assumption)).symm), trivial⟩ rfl (by repeat' (first | exact rfl | exact Iff.rfl | exact trivial | exact (fun _ _ => rfl) | exact (fun _ h => absurd h (Nat.not_lt_zero _)) | refine ⟨?_, ?_⟩ | exact Iff.rfl | exact congrArg (fun z => V.SV.one (V.At.val (Value.int .i64 z))) (by omega))) (by repeat' (first | exact rfl | exact Iff.rfl | exact trivial | exact (fun _ _ => rfl) | exact (fun _ h => absurd h (Nat.not_lt_zero _)) | refine ⟨?_, ?_⟩ | exact Iff.rfl | exact congrArg (fun z => V.SV.one (V.At.val (Value.int .i64 z))) (by omega))) (by repeat' (first | exact rfl | exact Iff.rfl | exact trivial | exact (fun _ _ => rfl) | exact (fun _ h => absurd h (Nat.not_lt_zero _)) | refine ⟨?_, ?_⟩ | exact Iff.rfl | exact congrArg (fun z => V.SV.one (V.At.val (Value.int .i64 z))) (by omega)))
        | trace_state
    obtain rfl : kk = l.length := by omega
    clear bi bs dr hkk
    rw [← pe]
    repeat' ((conv => whnf); first | (refine V.NIf.yes ?_ ?_; · (decide; done)) | (refine V.NIf.no ?_ ?_; · (decide; done)) | refine V.NCond.mk ?_ | refine V.NIf.not_ ?_ | refine V.NIf.dec_ ?_ | refine V.NIf.no (by omega) ?_ | refine V.NIf.yes (by omega) ?_ | refine V.NIf.mk (fun _ => ?_) (fun _ => ?_) | refine V.NWrap.ok (by omega) (by omega) ?_ | refine V.NWrap.u64 (by omega) (by omega) ?_ | refine V.NLt.mk (by omega) ?_ | refine V.NBoth.mk ?_ ?_ | refine V.NTF.yes (by omega) ?_ | refine V.NTF.no (by omega) ?_ | refine V.NTF.dec ?_ | refine V.NDraw.q (by exact rfl) (by kernel_rfl) ?_ | refine V.NApp.one (by first | omega | (simp; omega)) (by first | omega | (simp; omega)) ?_ | (refine NIdx.mk ⟨i, by omega, by omega, ?_⟩) | (first | refine V.Fn.k0 (pq) rfl ?_ | refine V.Fn.q0 (pq) rfl ?_ | refine V.Fn.a0 (pq) rfl ?_) | (refine NOne.mk ?_ ?_; · (intro k hk; rfl)) | (refine NApp.all_ (en := encL) (m := l) (by first | omega | (simp; omega)) (by omega) ?_) | (refine NPut.to ⟨(l.getD i default).day, (l.getD i default).un - m, (l.getD i default).co - Q⟩ rfl rfl ?_) | (refine V.NDraw.any (by kernel_rfl) ?_) | fail)
    all_goals (conv => whnf)
    exact NRet.mk_ [some 4] rfl ⟨rfl, rfl, trivial⟩ ⟨⟨rfl, rfl, List.length_set.symm, fun k hk => rfl⟩, trivial⟩
end Go.Proofs.Yticbaaigcmmggaa

/- The document's sale of lots, a step. -/
namespace Go.Proofs.Yticbaaigcmmggaa
open Go Go.RowKit V
set_option maxRecDepth 100000
set_option linter.unusedVariables false
set_option linter.unusedSimpArgs false
set_option maxHeartbeats 4000000
theorem v_rltStep1 (kind : Int) (hk : ¬ kind = 2) (hk3 : ¬ kind = 3) (l : List Lt) (m : Int) (h40 : l.length ≤ 40) (ho : ∀ x ∈ l, L.Ok x) (h0 : 0 < m) (hm : m ≤ L.un l)
    (ih : ∀ (l' : List Lt) (m' : Int), l'.length + 1 = l.length → l'.length ≤ 40 → (∀ x ∈ l', L.Ok x) → 0 ≤ m' → m' ≤ L.un l' → V.FnR Try.prog 14 [.arr 3 l'.length (ga encL l')] [.one (.ref 0), .one (.val (.int .i64 m')), .one (.val (.int .i64 kind))] (.tup [.one (.ref 1), .one (.val (.int .i64 (L.sell kind l'.length l' m').2))]) [.row 24 3 (L.sell kind l'.length l' m').1.length (ga encL (L.sell kind l'.length l' m').1)]) :
    V.FnR Try.prog 14 [.arr 3 l.length (ga encL l)] [.one (.ref 0), .one (.val (.int .i64 m)), .one (.val (.int .i64 kind))] (.tup [.one (.ref 1), .one (.val (.int .i64 (L.sell kind l.length l m).2))]) [.row 24 3 (L.sell kind l.length l m).1.length (ga encL (L.sell kind l.length l m).1)] := by
  have pos : 0 < l.length := by
    cases l with
    | nil => simp [L.un] at hm; omega
    | cons a r => simp
  have sb := L.sums_bd ho
  have hi : L.pick kind l < l.length := L.pick_lt pos
  have sa := @L.sell_all kind (l.length - 1) l m h0
  have sp := @L.sell_part kind (l.length - 1) l m h0
  rw [Nat.sub_add_cancel pos] at sa sp
  have pe : L.pick kind l = 0 := (if_neg hk).trans (if_neg hk3)
  generalize L.pick kind l = i at *
  have ox := ho _ (getD_mem (l := l) hi)
  have ua := L.un_at hi
  have lm := @L.mem_less l i
  unfold L.Ok at ox
  by_cases hx : (l.getD i default).un ≤ m
  · have sa := sa hx
    clear sp
    have dl : (l.take i ++ l.drop (i + 1)).length = l.length - 1 := by simp; omega
    have g1 : ∀ j, j < i → ga encL (l.take i) (0 + j) = ga encL l (0 + j) := fun j hj => V.ga_take (by omega) (by omega)
    have g2 : ∀ j, j < i → ga encL (l.take i ++ l.drop (i + 1)) j = ga encL (l.take i) j := fun j hj => V.ga_left (by rw [List.length_take]; omega)
    have g3 : ∀ j, j < l.length - (i + 1) → ga encL (l.take i ++ l.drop (i + 1)) (i + j) = ga encL l (i + 1 + j) := fun j hj => by
      rw [V.ga_right (by rw [List.length_take]; omega) (by simp; omega), V.ga_drop (by omega)]
    have lt : (l.take i).length = i := by rw [List.length_take]; omega
    generalize l.take i ++ l.drop (i + 1) = del at *
    have sd := L.sell_keeps kind del.length del (m - (l.getD i default).un) (Nat.le_refl _) (fun x hx => ho x (lm hx)) (by omega) (by omega)
    have c1 := ih del (m - (l.getD i default).un) (by omega) (by omega) (fun x hx => ho x (lm hx)) (by omega) (by omega)
    have sd2 : 0 ≤ (L.sell kind del.length del (m - (l.getD i default).un)).2 ∧ (L.sell kind del.length del (m - (l.getD i default).un)).2 ≤ 171798691840 := by
      have := (L.sums_bd (l := (L.sell kind del.length del (m - (l.getD i default).un)).1) sd.2.2.2.2).2.2.1
      omega
    rw [Int.add_comm] at sa
    rw [sa]
    rw [← dl]
    clear ih sa sd lm
    generalize L.sell kind del.length del (m - (l.getD i default).un) = R at *
    refine V.FnR.mk_ V.Tok V.mixed Try.func14 rfl Try.ntmps14 (by kernel_rfl) rfl rfl rfl rfl ?_
    repeat' ((conv => whnf); first | (refine V.NIf.yes ?_ ?_; · (decide; done)) | (refine V.NIf.no ?_ ?_; · (decide; done)) | refine V.NCond.mk ?_ | refine V.NIf.not_ ?_ | refine V.NIf.dec_ ?_ | refine V.NIf.no (by omega) ?_ | refine V.NIf.yes (by omega) ?_ | refine V.NIf.mk (fun _ => ?_) (fun _ => ?_) | refine V.NWrap.ok (by omega) (by omega) ?_ | refine V.NWrap.u64 (by omega) (by omega) ?_ | refine V.NLt.mk (by omega) ?_ | refine V.NBoth.mk ?_ ?_ | refine V.NTF.yes (by omega) ?_ | refine V.NTF.no (by omega) ?_ | refine V.NTF.dec ?_ | refine V.NDraw.q (by exact rfl) (by kernel_rfl) ?_ | refine V.NApp.one (by first | omega | (simp; omega)) (by first | omega | (simp; omega)) ?_ | (refine V.NDraw.any (by kernel_rfl) ?_) | fail)
    all_goals (conv => whnf)
    refine V.NLoop.auto (fun (u : Nat) => [(9, .one (.val (.int .i64 0))), (8, .one (.val (.int .i64 i)))]) (fun (u : Nat) => []) [] [] (fun (u : Nat) => 0) (fun (u : Nat) => u = 0) 0 rfl (by repeat' (first | exact rfl | exact Iff.rfl | exact trivial | exact (fun _ _ => rfl) | exact (fun _ h => absurd h (Nat.not_lt_zero _)) | refine ⟨?_, ?_⟩ | exact Iff.rfl | exact congrArg (fun z => V.SV.one (V.At.val (Value.int .i64 z))) (by omega))) (by repeat' (first | exact rfl | exact Iff.rfl | exact trivial | exact (fun _ _ => rfl) | exact (fun _ h => absurd h (Nat.not_lt_zero _)) | refine ⟨?_, ?_⟩ | exact Iff.rfl | exact congrArg (fun z => V.SV.one (V.At.val (Value.int .i64 z))) (by omega))) (fun _ => ⟨rfl, rfl⟩) ?_; (conv => whnf); refine ⟨⟨rfl, rfl⟩, ?_⟩
    rintro u rfl
    repeat' ((conv => whnf); first | (refine V.NIf.yes ?_ ?_; · (decide; done)) | (refine V.NIf.no ?_ ?_; · (decide; done)) | refine V.NCond.mk ?_ | refine V.NIf.not_ ?_ | refine V.NIf.dec_ ?_ | refine V.NIf.no (by omega) ?_ | refine V.NIf.yes (by omega) ?_ | refine V.NIf.mk (fun _ => ?_) (fun _ => ?_) | refine V.NWrap.ok (by omega) (by omega) ?_ | refine V.NWrap.u64 (by omega) (by omega) ?_ | refine V.NLt.mk (by omega) ?_ | refine V.NBoth.mk ?_ ?_ | refine V.NTF.yes (by omega) ?_ | refine V.NTF.no (by omega) ?_ | refine V.NTF.dec ?_ | refine V.NDraw.q (by exact rfl) (by kernel_rfl) ?_ | refine V.NApp.one (by first | omega | (simp; omega)) (by first | omega | (simp; omega)) ?_ | (refine NIdx.mk ⟨i, by omega, by omega, ?_⟩) | (refine NCut.mk ⟨0, i, rfl, rfl, by omega, by omega, ?_⟩) | (refine NCut.mk ⟨i + 1, _, by dsimp only [loIs]; omega, rfl, by omega, by omega, ?_⟩) | (refine NOne.mk ?_ ?_; · (intro k hk; rfl)) | (refine NApp.to_ (en := encL) (l.take i) (by omega) (by omega) (by simp; omega) (fun j hj => absurd hj (Nat.not_lt_zero _)) (fun j hj => g1 j (by omega)) ?_) | (refine NApp.to_ (en := encL) del (by omega) (by omega) (by simp; omega) (fun j hj => g2 j (by omega)) (fun j hj => by rw [lt]; exact g3 j (by omega)) ?_) | (refine V.NDraw.each (by kernel_rfl) ?_) | ((first | refine V.FnR.k_ (c1) [7] rfl ?_ ?_ | refine V.FnR.a_ (c1) [7] rfl ?_ ?_); · ((repeat' (first | exact rfl | exact Iff.rfl | exact trivial | exact (fun _ _ => rfl) | exact (fun _ h => absurd h (Nat.not_lt_zero _)) | refine ⟨?_, ?_⟩ | exact Iff.rfl | exact congrArg (fun z => V.SV.one (V.At.val (Value.int .i64 z))) (by omega))); done)) | (refine V.NDraw.any (by kernel_rfl) ?_) | fail)
    all_goals (conv => whnf)
    all_goals exact NRet.mk_ [some 8] rfl ⟨rfl, rfl, trivial⟩ ⟨⟨rfl, rfl, rfl, fun k hk => rfl⟩, trivial⟩
  · have sp := sp hx
    have pb := L.part_bd (x := l.getD i default) (m := m) ox (by omega) (by omega)
    have pq := v_partOf (l.getD i default).co m (l.getD i default).un (by omega) (by omega) (by omega)
    have po : M.poQ (l.getD i default).co m (l.getD i default).un = L.part (l.getD i default) m := if_neg (by unfold L.part at pb; omega)
    rw [po] at pq
    rw [sp]
    clear ih sa sp ua lm po
    generalize L.part (l.getD i default) m = Q at *
    generalize M.poR (l.getD i default).co m (l.getD i default).un = Q2 at *
    refine V.FnR.mk_ V.Tok V.mixed Try.func14 rfl Try.ntmps14 (by kernel_rfl) rfl rfl rfl rfl ?_
    repeat' ((conv => whnf); first | (refine V.NIf.yes ?_ ?_; · (decide; done)) | (refine V.NIf.no ?_ ?_; · (decide; done)) | refine V.NCond.mk ?_ | refine V.NIf.not_ ?_ | refine V.NIf.dec_ ?_ | refine V.NIf.no (by omega) ?_ | refine V.NIf.yes (by omega) ?_ | refine V.NIf.mk (fun _ => ?_) (fun _ => ?_) | refine V.NWrap.ok (by omega) (by omega) ?_ | refine V.NWrap.u64 (by omega) (by omega) ?_ | refine V.NLt.mk (by omega) ?_ | refine V.NBoth.mk ?_ ?_ | refine V.NTF.yes (by omega) ?_ | refine V.NTF.no (by omega) ?_ | refine V.NTF.dec ?_ | refine V.NDraw.q (by exact rfl) (by kernel_rfl) ?_ | refine V.NApp.one (by first | omega | (simp; omega)) (by first | omega | (simp; omega)) ?_ | (refine V.NDraw.any (by kernel_rfl) ?_) | fail)
    all_goals (conv => whnf)
    refine V.NLoop.auto (fun (u : Nat) => [(9, .one (.val (.int .i64 0))), (8, .one (.val (.int .i64 i)))]) (fun (u : Nat) => []) [] [] (fun (u : Nat) => 0) (fun (u : Nat) => u = 0) 0 rfl (by repeat' (first | exact rfl | exact Iff.rfl | exact trivial | exact (fun _ _ => rfl) | exact (fun _ h => absurd h (Nat.not_lt_zero _)) | refine ⟨?_, ?_⟩ | exact Iff.rfl | exact congrArg (fun z => V.SV.one (V.At.val (Value.int .i64 z))) (by omega))) (by repeat' (first | exact rfl | exact Iff.rfl | exact trivial | exact (fun _ _ => rfl) | exact (fun _ h => absurd h (Nat.not_lt_zero _)) | refine ⟨?_, ?_⟩ | exact Iff.rfl | exact congrArg (fun z => V.SV.one (V.At.val (Value.int .i64 z))) (by omega))) (fun _ => ⟨rfl, rfl⟩) ?_; (conv => whnf); refine ⟨⟨rfl, rfl⟩, ?_⟩
    rintro u rfl
    repeat' ((conv => whnf); first | (refine V.NIf.yes ?_ ?_; · (decide; done)) | (refine V.NIf.no ?_ ?_; · (decide; done)) | refine V.NCond.mk ?_ | refine V.NIf.not_ ?_ | refine V.NIf.dec_ ?_ | refine V.NIf.no (by omega) ?_ | refine V.NIf.yes (by omega) ?_ | refine V.NIf.mk (fun _ => ?_) (fun _ => ?_) | refine V.NWrap.ok (by omega) (by omega) ?_ | refine V.NWrap.u64 (by omega) (by omega) ?_ | refine V.NLt.mk (by omega) ?_ | refine V.NBoth.mk ?_ ?_ | refine V.NTF.yes (by omega) ?_ | refine V.NTF.no (by omega) ?_ | refine V.NTF.dec ?_ | refine V.NDraw.q (by exact rfl) (by kernel_rfl) ?_ | refine V.NApp.one (by first | omega | (simp; omega)) (by first | omega | (simp; omega)) ?_ | (refine NIdx.mk ⟨i, by omega, by omega, ?_⟩) | (first | refine V.Fn.k0 (pq) rfl ?_ | refine V.Fn.q0 (pq) rfl ?_ | refine V.Fn.a0 (pq) rfl ?_) | (refine NOne.mk ?_ ?_; · (intro k hk; rfl)) | (refine NApp.all_ (en := encL) (m := l) (by first | omega | (simp; omega)) (by omega) ?_) | (refine NPut.to ⟨(l.getD i default).day, (l.getD i default).un - m, (l.getD i default).co - Q⟩ rfl rfl ?_) | (refine V.NDraw.any (by kernel_rfl) ?_) | fail)
    all_goals (conv => whnf)
    exact NRet.mk_ [some 4] rfl ⟨rfl, rfl, trivial⟩ ⟨⟨rfl, rfl, List.length_set.symm, fun k hk => rfl⟩, trivial⟩
end Go.Proofs.Yticbaaigcmmggaa

/- Plain facts on prices: what units cost. -/
namespace Go.Proofs.Yticbaaigcmmggaa
set_option linter.unusedVariables false
namespace P
def Ok (p : Int) : Prop := 0 ≤ p ∧ p ≤ 1099511627776
instance (p : Int) : Decidable (Ok p) := by unfold Ok; exact inferInstance
def chk (p : Int) : Int := if Ok p then 0 else 3
theorem chk_yes {p : Int} (h : Ok p) : chk p = 0 := if_pos h
theorem chk_no {p : Int} (h : ¬ Ok p) : chk p = 3 := if_neg h
theorem pok {u p : Int} : M.POk u p 10000 ↔ M.Amt u ∧ Ok p := by
  unfold M.POk Ok
  constructor
  · intro h; exact ⟨h.1, h.2.1⟩
  · intro h; exact ⟨h.1, h.2, by omega⟩
/-- prices of all papers -/
def chks (l : List Int) : Int := if l.length ≠ 20 then 1 else if ∀ p ∈ l, Ok p then 0 else 3
theorem chks_ok {l : List Int} (h : chks l = 0) : l.length = 20 ∧ ∀ p ∈ l, Ok p := by
  unfold chks at h
  split at h
  · omega
  · split at h
    · exact ⟨by omega, by assumption⟩
    · omega
theorem chks_of {l : List Int} (h1 : l.length = 20) (h2 : ∀ p ∈ l, Ok p) : chks l = 0 := by
  unfold chks; rw [if_neg (by omega), if_pos h2]
theorem chks_bad {l : List Int} (h1 : l.length = 20) {p : Int} (hp : p ∈ l) (h2 : ¬ Ok p) : chks l = 3 := by
  unfold chks; rw [if_neg (by omega), if_neg fun q => h2 (q p hp)]
/-- the price of a paper -/
def pr (l : List Int) (pa : Int) : Int := l.getD (pa - 1).toNat default
theorem pr_ok {l : List Int} (h : chks l = 0) {pa : Int} (h1 : 1 ≤ pa ∧ pa ≤ 20) : Ok (pr l pa) := by
  obtain ⟨h2, h3⟩ := chks_ok h
  exact h3 _ (getD_mem (by omega))
/-- what units cost -/
def cost (u p : Int) : Int := u * p / 10000
theorem mul_bd {u p : Int} (hu : 0 ≤ u ∧ u ≤ 1073741824) (hp : Ok p) : 0 ≤ u * p ∧ u * p ≤ 1180591620717411303424 := by
  unfold Ok at hp
  have h1 := Int.mul_nonneg hu.1 hp.1
  have h2 := Int.mul_le_mul hu.2 hp.2 hp.1 (show (0 : Int) ≤ 1073741824 by omega)
  omega
theorem cost_bd {u p : Int} (hu : 0 ≤ u ∧ u ≤ 1073741824) (hp : Ok p) : 0 ≤ cost u p ∧ cost u p ≤ 118059162071741130 := by
  have := mul_bd hu hp
  unfold cost
  generalize u * p = x at *
  omega
theorem cost_mono {u v p : Int} (h : u ≤ v) (hp : Ok p) : cost u p ≤ cost v p := by
  have := Int.mul_le_mul_of_nonneg_right h hp.1
  unfold cost
  generalize u * p = x at *
  generalize v * p = y at *
  omega
theorem part_cost {u p : Int} (hu : 0 ≤ u ∧ u ≤ 1073741824) (hp : Ok p) : M.prE u p 10000 = 0 ∧ M.prQ u p 10000 = cost u p := by
  have h := cost_bd hu hp
  have k : M.POk u p 10000 := pok.2 ⟨by unfold M.Amt; omega, hp⟩
  have a : M.Amt (u * p / 10000) := by unfold M.Amt; unfold cost at h; omega
  exact ⟨(M.pr_3 k a).1, (M.pr_3 k a).2.1⟩
/-- part of an amount, by parts of 10000 -/
theorem rate_bd {n r : Int} (hn : 0 ≤ n) (hr : 0 ≤ r ∧ r ≤ 10000) : 0 ≤ n * r / 10000 ∧ n * r / 10000 ≤ n := by
  have h1 := Int.mul_nonneg hn hr.1
  have h2 := Int.mul_le_mul_of_nonneg_left hr.2 hn
  generalize n * r = x at *
  omega
theorem rate_mono {n m r : Int} (h : n ≤ m) (hr : 0 ≤ r) : n * r / 10000 ≤ m * r / 10000 := by
  have := Int.mul_le_mul_of_nonneg_right h hr
  generalize n * r = x at *
  generalize m * r = y at *
  omega
theorem part_rate {n r : Int} (hn : 0 ≤ n ∧ n ≤ 1152921504606846976) (hr : 0 ≤ r ∧ r ≤ 10000) : M.prE n r 10000 = 0 ∧ M.prQ n r 10000 = n * r / 10000 := by
  have h := rate_bd hn.1 hr
  have k : M.POk n r 10000 := ⟨by unfold M.Amt; omega, by omega, by omega⟩
  have a : M.Amt (n * r / 10000) := by unfold M.Amt; omega
  exact ⟨(M.pr_3 k a).1, (M.pr_3 k a).2.1⟩
end P
end Go.Proofs.Yticbaaigcmmggaa

/- Plain facts on what is put down. -/
namespace Go.Proofs.Yticbaaigcmmggaa
set_option linter.unusedVariables false
structure St where
  pa : Int
  un : Int
  ct : Int
instance : Inhabited St := ⟨⟨0, 0, 0⟩⟩
namespace K
def Ok (s : St) : Prop := (1 ≤ s.pa ∧ s.pa ≤ 20) ∧ (1 ≤ s.un ∧ s.un ≤ 1073741824) ∧ (0 ≤ s.ct ∧ s.ct ≤ 10000)
instance (s : St) : Decidable (Ok s) := by unfold Ok; exact inferInstance
def chk (l : List St) : Int := if 40 < l.length then 2 else if ∀ s ∈ l, Ok s then 0 else 3
theorem chk_ok {l : List St} (h : chk l = 0) : l.length ≤ 40 ∧ ∀ s ∈ l, Ok s := by
  unfold chk at h
  split at h
  · omega
  · split at h
    · exact ⟨by omega, by assumption⟩
    · omega
theorem chk_of {l : List St} (h1 : l.length ≤ 40) (h2 : ∀ s ∈ l, Ok s) : chk l = 0 := by
  unfold chk; rw [if_neg (by omega), if_pos h2]
theorem chk_bad {l : List St} (h1 : l.length ≤ 40) {s : St} (hs : s ∈ l) (h2 : ¬ Ok s) : chk l = 3 := by
  unfold chk; rw [if_neg (by omega), if_neg fun q => h2 (q s hs)]
/-- what so many units of a stake count -/
def cnt (ps : List Int) (s : St) (u : Int) : Int := P.cost u (P.pr ps s.pa) * s.ct / 10000
theorem cnt_bd {ps : List Int} {s : St} {u : Int} (h : P.chks ps = 0) (hs : Ok s) (hu : 0 ≤ u ∧ u ≤ 1073741824) : 0 ≤ cnt ps s u ∧ cnt ps s u ≤ 118059162071741130 := by
  have h1 := P.cost_bd hu (P.pr_ok h hs.1)
  have h2 := P.rate_bd h1.1 hs.2.2
  unfold cnt; omega
theorem cnt_mono {ps : List Int} {s : St} {u v : Int} (h : P.chks ps = 0) (hs : Ok s) (huv : u ≤ v) : cnt ps s u ≤ cnt ps s v :=
  P.rate_mono (P.cost_mono huv (P.pr_ok h hs.1)) hs.2.2.1
theorem cnt_zero (ps : List Int) (s : St) : cnt ps s 0 = 0 := by unfold cnt P.cost; simp
/-- stakes, and prices -/
def ck (l : List St) (ps : List Int) : Int := if chk l ≠ 0 then chk l else P.chks ps
theorem ck_ok {l : List St} {ps : List Int} (h : ck l ps = 0) : chk l = 0 ∧ P.chks ps = 0 := by
  unfold ck at h
  split at h
  · exact absurd h ‹_›
  · exact ⟨by omega, h⟩
theorem ck_of {l : List St} {ps : List Int} (h1 : chk l = 0) (h2 : P.chks ps = 0) : ck l ps = 0 := by
  unfold ck; rw [if_neg (by omega), h2]
theorem ck_1 {l : List St} {ps : List Int} (h : ¬ chk l = 0) : ck l ps = chk l := if_pos h
theorem ck_2 {l : List St} {ps : List Int} (h : chk l = 0) : ck l ps = P.chks ps := if_neg (by omega)
/-- what all count -/
def cts (ps : List Int) (l : List St) : List Int := l.map fun s => cnt ps s s.un
def val (ps : List Int) (l : List St) : Int := M.sum (cts ps l)
theorem val_snoc {ps : List Int} {l : List St} {k : Nat} (h : k < l.length) : val ps (l.take (k + 1)) = val ps (l.take k) + cnt ps (l.getD k default) (l.getD k default).un := by
  unfold val cts
  rw [List.take_succ_eq_append_getElem h, List.map_append, M.sum_append, getD_at h]; simp [M.sum]
theorem val_app {ps : List Int} {l m : List St} : val ps (l ++ m) = val ps l + val ps m := by
  unfold val cts; rw [List.map_append, M.sum_append]
theorem val_bd {ps : List Int} {l : List St} (h : P.chks ps = 0) (hs : ∀ s ∈ l, Ok s) (hl : l.length ≤ 80) : 0 ≤ val ps l ∧ val ps l ≤ 118059162071741130 * (l.length : Int) := by
  induction l with
  | nil => simp [val, cts, M.sum]
  | cons s l ih =>
    have h1 := ih (fun x hx => hs x (by simp [hx])) (by simp at hl; omega)
    have h2 := cnt_bd (u := s.un) h (hs s (by simp)) (by have := (hs s (by simp)).2.1; omega)
    simp only [val, cts, List.map_cons, M.sum, List.length_cons, Int.natCast_add, Int.mul_add] at *
    omega
theorem val_take {ps : List Int} {l : List St} (h : P.chks ps = 0) (hs : ∀ s ∈ l, Ok s) (hl : l.length ≤ 80) (k : Nat) : val ps (l.take k) ≤ val ps l := by
  have e : val ps l = val ps (l.take k) + val ps (l.drop k) := by rw [← val_app, List.take_append_drop]
  have := val_bd h (fun s hs' => hs s (List.mem_of_mem_drop hs')) (l := l.drop k) (by simp; omega)
  omega
theorem one_le {ps : List Int} {l : List St} (h : P.chks ps = 0) (hs : ∀ s ∈ l, Ok s) (hl : l.length ≤ 80) {i : Nat} (hi : i < l.length) : cnt ps (l.getD i default) (l.getD i default).un ≤ val ps l := by
  have h1 := val_take h hs hl (i + 1)
  have h2 := val_snoc (ps := ps) hi
  have h3 := val_bd h (fun s hs' => hs s (List.mem_of_mem_take hs')) (l := l.take i) (by simp; omega)
  omega
def vE (l : List St) (ps : List Int) : Int := if ck l ps ≠ 0 then ck l ps else if 1152921504606846976 < val ps l then 8 else 0
def vV (l : List St) (ps : List Int) : Int := if vE l ps = 0 then val ps l else 0
theorem v_1 {l : List St} {ps : List Int} (h : ¬ ck l ps = 0) : vE l ps = ck l ps ∧ vV l ps = 0 := by
  have e : vE l ps = ck l ps := if_pos h
  exact ⟨e, if_neg (by omega)⟩
theorem v_2 {l : List St} {ps : List Int} (h : ck l ps = 0) (k : 1152921504606846976 < val ps l) : vE l ps = 8 ∧ vV l ps = 0 := by
  have e : vE l ps = 8 := by unfold vE; rw [if_neg (by omega), if_pos k]
  exact ⟨e, if_neg (by omega)⟩
theorem v_3 {l : List St} {ps : List Int} (h : ck l ps = 0) (k : ¬ 1152921504606846976 < val ps l) : vE l ps = 0 ∧ vV l ps = val ps l := by
  have e : vE l ps = 0 := by unfold vE; rw [if_neg (by omega), if_neg k]
  exact ⟨e, if_pos e⟩
theorem v_ok {l : List St} {ps : List Int} (h : vE l ps = 0) : ck l ps = 0 ∧ val ps l ≤ 1152921504606846976 ∧ vV l ps = val ps l := by
  by_cases a : ck l ps = 0
  · by_cases b : 1152921504606846976 < val ps l
    · rw [(v_2 a b).1] at h; omega
    · exact ⟨a, by omega, (v_3 a b).2⟩
  · rw [(v_1 a).1] at h; exact absurd h a
def vl (ps : List Int) (l : List St) : Int := if 1152921504606846976 < val ps l then 0 else val ps l
theorem vl_yes {ps : List Int} {l : List St} (h : ¬ 1152921504606846976 < val ps l) : vl ps l = val ps l := if_neg h
theorem vl_no {ps : List Int} {l : List St} (h : 1152921504606846976 < val ps l) : vl ps l = 0 := if_pos h
theorem vV_bd {l : List St} {ps : List Int} (h : vE l ps = 0) : 0 ≤ vV l ps ∧ vV l ps ≤ 1152921504606846976 := by
  obtain ⟨a1, a2, a3⟩ := v_ok h
  obtain ⟨c1, c2⟩ := ck_ok a1
  obtain ⟨c3, c4⟩ := chk_ok c1
  have := val_bd c2 c4 (by omega)
  omega
/-- two lists -/
theorem two {l m : List St} {ps : List Int} (h1 : vE l ps = 0) (h2 : vE m ps = 0) : vE (l ++ m) ps = 2 ∨ vE (l ++ m) ps = 8 ∨ (vE (l ++ m) ps = 0 ∧ vV (l ++ m) ps = vV l ps + vV m ps) := by
  obtain ⟨a1, a2, a3⟩ := v_ok h1
  obtain ⟨b1, b2, b3⟩ := v_ok h2
  obtain ⟨c1, c2⟩ := ck_ok a1
  obtain ⟨d1, _⟩ := ck_ok b1
  obtain ⟨c3, c4⟩ := chk_ok c1
  obtain ⟨d3, d4⟩ := chk_ok d1
  by_cases q : 40 < (l ++ m).length
  · left
    have e : chk (l ++ m) = 2 := if_pos q
    exact (v_1 (by rw [ck_1 (by omega)]; omega)).1.trans ((ck_1 (by omega)).trans e)
  · have e : chk (l ++ m) = 0 := chk_of (by omega) fun s hs => by
      rcases List.mem_append.1 hs with h | h
      · exact c4 s h
      · exact d4 s h
    have ek := ck_of e c2
    by_cases k : 1152921504606846976 < val ps (l ++ m)
    · exact .inr (.inl (v_2 ek k).1)
    · obtain ⟨x, y⟩ := v_3 ek k
      exact .inr (.inr ⟨x, by rw [y, val_app, a3, b3]⟩)
/-- stakes that count nothing -/
def noth (l : List St) (k : Nat) : List St := (l.take k).map fun s => ⟨s.pa, s.un, 0⟩
theorem noth_succ {l : List St} {k : Nat} (h : k < l.length) : noth l (k + 1) = noth l k ++ [⟨(l.getD k default).pa, (l.getD k default).un, 0⟩] := by
  unfold noth; rw [List.take_succ_eq_append_getElem h, List.map_append, getD_at h]; rfl
theorem noth_v {l : List St} {ps : List Int} (h : vE l ps = 0) : vE (noth l l.length) ps = 0 ∧ vV (noth l l.length) ps = 0 := by
  obtain ⟨a1, _, _⟩ := v_ok h
  obtain ⟨c1, c2⟩ := ck_ok a1
  obtain ⟨c3, c4⟩ := chk_ok c1
  have e : chk (noth l l.length) = 0 := chk_of (by simp [noth]; omega) fun s hs => by
    unfold noth at hs
    obtain ⟨x, hx, rfl⟩ := List.mem_map.1 hs
    obtain ⟨h1, h2, h3⟩ := c4 x (List.mem_of_mem_take hx)
    exact ⟨h1, h2, Int.le_refl _, (by decide : (0 : Int) ≤ 10000)⟩
  have ev : val ps (noth l l.length) = 0 := by
    unfold val cts noth
    generalize l.take l.length = m
    induction m with
    | nil => rfl
    | cons s m ih =>
      simp only [List.map_cons, M.sum]
      rw [ih]
      show P.cost s.un (P.pr ps s.pa) * 0 / 10000 + 0 = 0
      rw [Int.mul_zero]; rfl
  obtain ⟨x, y⟩ := v_3 (ck_of e c2) (by rw [ev]; decide)
  exact ⟨x, y.trans ev⟩
/-- calls -/
def caE (has need least : Int) : Int := if ¬ ((0 ≤ has ∧ has ≤ 1152921504606846976) ∧ (0 ≤ need ∧ need ≤ 1152921504606846976) ∧ (0 ≤ least ∧ least ≤ 1152921504606846976)) then 3 else 0
def caV (has need least : Int) : Int := if caE has need least = 0 ∧ has < need ∧ least ≤ need - has then need - has else 0
/-- what must stay -/
structure Stay (ps : List Int) (s : St) (oth need m : Int) : Prop where
  b : 0 ≤ m ∧ m ≤ s.un
  y : need ≤ oth + cnt ps s m
  n : m = 0 ∨ oth + cnt ps s (m - 1) < need
theorem stay_one {ps : List Int} {s : St} {oth need m k : Int} (h : P.chks ps = 0) (hs : Ok s) (a : Stay ps s oth need m) (b : Stay ps s oth need k) : m = k := by
  have key : ∀ {m k : Int}, Stay ps s oth need m → Stay ps s oth need k → ¬ m < k := fun {m k} a b q => by
    rcases b.n with e | e
    · have := a.b; omega
    · have := cnt_mono h hs (show m ≤ k - 1 by omega)
      have := a.y; omega
  have h1 := key a b
  have h2 := key b a
  omega
noncomputable def stay (ps : List Int) (s : St) (oth need : Int) : Int := Classical.epsilon (Stay ps s oth need)
theorem stay_is {ps : List Int} {s : St} {oth need m : Int} (h : P.chks ps = 0) (hs : Ok s) (a : Stay ps s oth need m) : stay ps s oth need = m :=
  stay_one h hs (Classical.epsilon_spec ⟨m, a⟩) a
def oth (ps : List Int) (l : List St) (at_ : Nat) : Int := val ps l - cnt ps (l.getD at_ default) (l.getD at_ default).un
def spE (l : List St) (ps : List Int) (need at_ : Int) : Int :=
  if ck l ps ≠ 0 then ck l ps else if ¬ (0 ≤ need ∧ need ≤ 1152921504606846976) then 3 else if at_ < 0 ∨ l.length ≤ at_ then 5 else if 1152921504606846976 < val ps l then 8 else if val ps l < need then 4 else 0
noncomputable def spV (l : List St) (ps : List Int) (need at_ : Int) : Int :=
  if spE l ps need at_ = 0 then (l.getD at_.toNat default).un - stay ps (l.getD at_.toNat default) (oth ps l at_.toNat) need else 0
theorem sp_bad {l : List St} {ps : List Int} {need at_ c : Int} (h : spE l ps need at_ = c) (hc : c ≠ 0) : spV l ps need at_ = 0 ∧ spE l ps need at_ = c := ⟨if_neg (by omega), h⟩
theorem sp_1 {l : List St} {ps : List Int} {need at_ : Int} (h : ¬ ck l ps = 0) : spE l ps need at_ = ck l ps := if_pos h
theorem sp_2 {l : List St} {ps : List Int} {need at_ : Int} (h : ck l ps = 0) (h2 : ¬ (0 ≤ need ∧ need ≤ 1152921504606846976)) : spE l ps need at_ = 3 := (if_neg (by omega)).trans (if_pos h2)
theorem sp_3 {l : List St} {ps : List Int} {need at_ : Int} (h : ck l ps = 0) (h2 : 0 ≤ need ∧ need ≤ 1152921504606846976) (h3 : at_ < 0 ∨ l.length ≤ at_) : spE l ps need at_ = 5 := ((if_neg (by omega)).trans (if_neg (fun q => q h2))).trans (if_pos h3)
theorem sp_4 {l : List St} {ps : List Int} {need at_ : Int} (h : ck l ps = 0) (h2 : 0 ≤ need ∧ need ≤ 1152921504606846976) (h3 : ¬ (at_ < 0 ∨ l.length ≤ at_)) (h4 : 1152921504606846976 < val ps l) : spE l ps need at_ = 8 := (((if_neg (by omega)).trans (if_neg (fun q => q h2))).trans (if_neg h3)).trans (if_pos h4)
theorem sp_5 {l : List St} {ps : List Int} {need at_ : Int} (h : ck l ps = 0) (h2 : 0 ≤ need ∧ need ≤ 1152921504606846976) (h3 : ¬ (at_ < 0 ∨ l.length ≤ at_)) (h4 : ¬ 1152921504606846976 < val ps l) (h5 : val ps l < need) : spE l ps need at_ = 4 := ((((if_neg (by omega)).trans (if_neg (fun q => q h2))).trans (if_neg h3)).trans (if_neg h4)).trans (if_pos h5)
theorem sp_6 {l : List St} {ps : List Int} {need at_ : Int} (h : ck l ps = 0) (h2 : 0 ≤ need ∧ need ≤ 1152921504606846976) (h3 : ¬ (at_ < 0 ∨ l.length ≤ at_)) (h4 : ¬ 1152921504606846976 < val ps l) (h5 : ¬ val ps l < need) : spE l ps need at_ = 0 := ((((if_neg (by omega)).trans (if_neg (fun q => q h2))).trans (if_neg h3)).trans (if_neg h4)).trans (if_neg h5)
theorem sp_no {l : List St} {ps : List Int} {need at_ : Int} (h : ¬ spE l ps need at_ = 0) : spV l ps need at_ = 0 := if_neg h
theorem sp_ok {l : List St} {ps : List Int} {need at_ : Int} (h : spE l ps need at_ = 0) : ck l ps = 0 ∧ (0 ≤ need ∧ need ≤ 1152921504606846976) ∧ (0 ≤ at_ ∧ at_ < l.length) ∧ need ≤ val ps l ∧ val ps l ≤ 1152921504606846976 := by
  unfold spE at h
  split at h
  · exact absurd h ‹_›
  split at h
  · omega
  split at h
  · omega
  split at h
  · omega
  split at h
  · omega
  omega
theorem stay_ex {l : List St} {ps : List Int} {need at_ : Int} (h : spE l ps need at_ = 0) : Stay ps (l.getD at_.toNat default) (oth ps l at_.toNat) need (stay ps (l.getD at_.toNat default) (oth ps l at_.toNat) need) := by
  obtain ⟨h1, h2, h3, h4, h5⟩ := sp_ok h
  obtain ⟨c1, c2⟩ := ck_ok h1
  obtain ⟨c3, c4⟩ := chk_ok c1
  have hs := c4 _ (getD_mem (l := l) (k := at_.toNat) (by omega))
  have ho : oth ps l at_.toNat + cnt ps (l.getD at_.toNat default) (l.getD at_.toNat default).un = val ps l := by unfold oth; omega
  generalize l.getD at_.toNat default = s at *
  have key : ∀ n : Nat, (n : Int) ≤ s.un → need ≤ oth ps l at_.toNat + cnt ps s n → ∃ m, Stay ps s (oth ps l at_.toNat) need m := by
    intro n
    induction n with
    | zero => intro hn hq; exact ⟨0, ⟨by omega, by simpa using hq, .inl rfl⟩⟩
    | succ n ih =>
      intro hn hq
      by_cases q : need ≤ oth ps l at_.toNat + cnt ps s n
      · exact ih (by omega) q
      · exact ⟨((n + 1 : Nat) : Int), ⟨by omega, hq, .inr (by rw [show ((n + 1 : Nat) : Int) - 1 = n by omega]; omega)⟩⟩
  have e : ((s.un.toNat : Nat) : Int) = s.un := Int.toNat_of_nonneg (by have := hs.2.1; omega)
  obtain ⟨m, hm⟩ := key s.un.toNat (by omega) (by
    rw [e]; omega)
  exact Classical.epsilon_spec ⟨m, hm⟩
/-- what a party must put down -/
def nds (fs : List Fl) (ps : List Int) (party : Int) : List Int := (fs.filter fun f => decide (f.fr = party)).map fun f => P.cost (F.left f) (P.pr ps f.pa)
def need (fs : List Fl) (ps : List Int) (party : Int) : Int := M.sum (nds fs ps party)
def nE (fs : List Fl) (ps : List Int) (party rate : Int) : Int :=
  if F.checks fs ≠ 0 then F.checks fs else if P.chks ps ≠ 0 then P.chks ps else if ¬ ((0 ≤ party ∧ party ≤ 30) ∧ (0 ≤ rate ∧ rate ≤ 10000)) then 3 else if 1152921504606846976 < need fs ps party then 8 else 0
def nV (fs : List Fl) (ps : List Int) (party rate : Int) : Int := if nE fs ps party rate = 0 then need fs ps party * rate / 10000 else 0
theorem checks_all {fs : List Fl} (h : F.checks fs = 0) : fs.length ≤ 60 ∧ (∀ f ∈ fs, F.Ok f) ∧ (fs.map (·.id)).Nodup := by
  have h60 : fs.length ≤ 60 := F.checks_len (by omega)
  unfold F.checks at h
  rw [if_neg (by omega)] at h
  obtain ⟨a, b⟩ := F.ckFrom_ok h
  exact ⟨h60, fun f hf => F.chk_ok (a f hf).1, b⟩
theorem checks_of {fs : List Fl} (h : fs.length ≤ 60) (a : ∀ f ∈ fs, F.Ok f) (b : (fs.map (·.id)).Nodup) : F.checks fs = 0 := by
  unfold F.checks
  rw [if_neg (by omega)]
  exact F.ckFrom_of (fun f hf => ⟨F.chk_of (a f hf), by simp⟩) b
theorem left_bd {f : Fl} (h : F.Ok f) : 0 ≤ F.left f ∧ F.left f ≤ 1073741824 := by
  have := F.ok_bounds h; omega
theorem ask_bd {ps : List Int} {f : Fl} (h : P.chks ps = 0) (hf : F.Ok f) : 0 ≤ P.cost (F.left f) (P.pr ps f.pa) ∧ P.cost (F.left f) (P.pr ps f.pa) ≤ 118059162071741130 :=
  P.cost_bd (left_bd hf) (P.pr_ok h hf.1.2.2.2.2.1)
theorem need_snoc {fs : List Fl} {ps : List Int} {party : Int} {k : Nat} (h : k < fs.length) : need (fs.take (k + 1)) ps party = need (fs.take k) ps party + if (fs.getD k default).fr = party then P.cost (F.left (fs.getD k default)) (P.pr ps (fs.getD k default).pa) else 0 := by
  unfold need nds
  rw [List.take_succ_eq_append_getElem h, List.filter_append, List.map_append, M.sum_append, getD_at h]
  by_cases q : fs[k].fr = party <;> simp [q, M.sum]
theorem need_bd {ps : List Int} {party : Int} {fs : List Fl} (h : P.chks ps = 0) (hf : ∀ f ∈ fs, F.Ok f) : 0 ≤ need fs ps party ∧ need fs ps party ≤ 118059162071741130 * (fs.length : Int) := by
  induction fs with
  | nil => simp [need, nds, M.sum]
  | cons f fs ih =>
    have h1 := ih (fun x hx => hf x (by simp [hx]))
    have h2 := ask_bd h (hf f (by simp))
    have e : need (f :: fs) ps party = (if f.fr = party then P.cost (F.left f) (P.pr ps f.pa) else 0) + need fs ps party := by
      unfold need nds
      by_cases q : f.fr = party <;> simp [q, M.sum]
    rw [e, List.length_cons]
    simp only [Int.natCast_add, Int.mul_add]
    split <;> omega
theorem n_1 {fs : List Fl} {ps : List Int} {party rate : Int} (h : ¬ F.checks fs = 0) : nE fs ps party rate = F.checks fs ∧ nV fs ps party rate = 0 := by
  have e : nE fs ps party rate = F.checks fs := if_pos h
  exact ⟨e, if_neg (by omega)⟩
theorem n_2 {fs : List Fl} {ps : List Int} {party rate : Int} (h : F.checks fs = 0) (h2 : ¬ P.chks ps = 0) : nE fs ps party rate = P.chks ps ∧ nV fs ps party rate = 0 := by
  have e : nE fs ps party rate = P.chks ps := (if_neg (by omega)).trans (if_pos h2)
  exact ⟨e, if_neg (by omega)⟩
theorem n_3 {fs : List Fl} {ps : List Int} {party rate : Int} (h : F.checks fs = 0) (h2 : P.chks ps = 0) (h3 : ¬ ((0 ≤ party ∧ party ≤ 30) ∧ (0 ≤ rate ∧ rate ≤ 10000))) : nE fs ps party rate = 3 ∧ nV fs ps party rate = 0 := by
  have e : nE fs ps party rate = 3 := ((if_neg (by omega)).trans (if_neg (by omega))).trans (if_pos h3)
  exact ⟨e, if_neg (by omega)⟩
theorem n_4 {fs : List Fl} {ps : List Int} {party rate : Int} (h : F.checks fs = 0) (h2 : P.chks ps = 0) (h3 : (0 ≤ party ∧ party ≤ 30) ∧ (0 ≤ rate ∧ rate ≤ 10000)) (h4 : 1152921504606846976 < need fs ps party) : nE fs ps party rate = 8 ∧ nV fs ps party rate = 0 := by
  have e : nE fs ps party rate = 8 := (((if_neg (by omega)).trans (if_neg (by omega))).trans (if_neg (fun q => q h3))).trans (if_pos h4)
  exact ⟨e, if_neg (by omega)⟩
theorem n_5 {fs : List Fl} {ps : List Int} {party rate : Int} (h : F.checks fs = 0) (h2 : P.chks ps = 0) (h3 : (0 ≤ party ∧ party ≤ 30) ∧ (0 ≤ rate ∧ rate ≤ 10000)) (h4 : ¬ 1152921504606846976 < need fs ps party) : nE fs ps party rate = 0 ∧ nV fs ps party rate = need fs ps party * rate / 10000 := by
  have e : nE fs ps party rate = 0 := (((if_neg (by omega)).trans (if_neg (by omega))).trans (if_neg (fun q => q h3))).trans (if_neg h4)
  exact ⟨e, if_pos e⟩
theorem n_no {fs : List Fl} {ps : List Int} {party rate : Int} (h : ¬ nE fs ps party rate = 0) : nV fs ps party rate = 0 := if_neg h
theorem n_ok {fs : List Fl} {ps : List Int} {party rate : Int} (h : nE fs ps party rate = 0) : F.checks fs = 0 ∧ P.chks ps = 0 ∧ (0 ≤ party ∧ party ≤ 30) ∧ (0 ≤ rate ∧ rate ≤ 10000) ∧ need fs ps party ≤ 1152921504606846976 ∧ nV fs ps party rate = need fs ps party * rate / 10000 := by
  have e : nV fs ps party rate = need fs ps party * rate / 10000 := if_pos h
  unfold nE at h
  split at h
  · exact absurd h ‹_›
  split at h
  · exact absurd h ‹_›
  split at h
  · omega
  split at h
  · omega
  rename_i a b c d
  exact ⟨Classical.not_not.1 a, Classical.not_not.1 b, by omega, by omega, by omega, e⟩
end K
end Go.Proofs.Yticbaaigcmmggaa

/- What is asked of dues: plain, and the functions that check them. -/
namespace Go.Proofs.Yticbaaigcmmggaa
open Go Go.RowKit V
set_option maxRecDepth 100000
set_option linter.unusedVariables false
structure Du where
  fr : Int
  to : Int
  am : Int
instance : Inhabited Du := ⟨⟨0, 0, 0⟩⟩
def encD (d : Du) : List Value := [.int .i64 d.fr, .int .i64 d.to, .int .i64 d.am]
namespace N
def ck1 (d : Du) : Int := if ¬ ((0 ≤ d.fr ∧ d.fr ≤ 30) ∧ (0 ≤ d.to ∧ d.to ≤ 30) ∧ 1 ≤ d.am ∧ d.am ≤ 1152921504606846976) then 3 else if d.fr = d.to then 1 else 0
def chk (l : List Du) : Int := if 60 < l.length then 2 else fb ck1 l
theorem chk_ok {l : List Du} (h : chk l = 0) : l.length ≤ 60 ∧ ∀ d ∈ l, ck1 d = 0 := by
  unfold chk at h
  split at h
  · omega
  · exact ⟨by omega, fb_ok h⟩
theorem ck_ok {d : Du} (h : ck1 d = 0) : (0 ≤ d.fr ∧ d.fr ≤ 30) ∧ (0 ≤ d.to ∧ d.to ≤ 30) ∧ (1 ≤ d.am ∧ d.am ≤ 1152921504606846976) ∧ d.fr ≠ d.to := by
  unfold ck1 at h
  split at h
  · omega
  · split at h <;> omega
end N
end Go.Proofs.Yticbaaigcmmggaa

/- Plain facts on what papers bring. -/
namespace Go.Proofs.Yticbaaigcmmggaa
set_option linter.unusedVariables false
structure Ev where
  pa : Int
  ca : Int
  gi : Int
  fo : Int
structure Po where
  ac : Int
  ut : Int
  am : Int
instance : Inhabited Ev := ⟨⟨0, 0, 0, 0⟩⟩
def encE (p : Ev) : List Go.Value := [.int .i64 p.pa, .int .i64 p.ca, .int .i64 p.gi, .int .i64 p.fo]
instance : Inhabited Po := ⟨⟨0, 0, 0⟩⟩
def encP (p : Po) : List Go.Value := [.int .i64 p.ac, .int .i64 p.ut, .int .i64 p.am]
namespace C
def Ok (v : Ev) : Prop := (1 ≤ v.pa ∧ v.pa ≤ 20) ∧ P.Ok v.ca ∧ (0 ≤ v.gi ∧ v.gi ≤ 1000) ∧ (0 ≤ v.fo ∧ v.fo ≤ 1000)
instance (v : Ev) : Decidable (Ok v) := by unfold Ok; exact inferInstance
def Odd (v : Ev) : Prop := ¬ (v.gi = 0 ↔ v.fo = 0) ∨ (v.gi = 0 ∧ v.ca = 0)
instance (v : Ev) : Decidable (Odd v) := by unfold Odd; exact inferInstance
def ev (v : Ev) : Int := if ¬ Ok v then 3 else if Odd v then 1 else 0
theorem ev_ok {v : Ev} (h : ev v = 0) : Ok v ∧ (v.gi = 0 ↔ v.fo = 0) ∧ ¬ (v.gi = 0 ∧ v.ca = 0) := by
  unfold ev at h
  split at h
  · omega
  · split at h
    · omega
    · rename_i a b
      unfold Odd at b
      exact ⟨Classical.not_not.1 a, Classical.not_not.1 fun q => b (.inl q), fun q => b (.inr q)⟩
theorem ev_1 {v : Ev} (h : ¬ Ok v) : ev v = 3 := if_pos h
theorem ev_2 {v : Ev} (h : Ok v) (k : Odd v) : ev v = 1 := (if_neg (fun q => q h)).trans (if_pos k)
theorem ev_3 {v : Ev} (h : Ok v) (k : ¬ Odd v) : ev v = 0 := (if_neg (fun q => q h)).trans (if_neg k)
def uE (v : Ev) (u : Int) : Int := if ev v ≠ 0 then ev v else if ¬ (0 ≤ u ∧ u ≤ 1073741824) then 3 else 0
theorem uE_ok {v : Ev} {u : Int} (h : uE v u = 0) : ev v = 0 ∧ 0 ≤ u ∧ u ≤ 1073741824 := by
  unfold uE at h
  split at h
  · exact absurd h ‹_›
  · split at h
    · omega
    · exact ⟨by omega, by omega, by omega⟩
theorem uE_1 {v : Ev} {u : Int} (h : ¬ ev v = 0) : uE v u = ev v := if_pos h
theorem uE_2 {v : Ev} {u : Int} (h : ev v = 0) (k : ¬ (0 ≤ u ∧ u ≤ 1073741824)) : uE v u = 3 := (if_neg (by omega)).trans (if_pos k)
theorem uE_3 {v : Ev} {u : Int} (h : ev v = 0) (k : 0 ≤ u ∧ u ≤ 1073741824) : uE v u = 0 := (if_neg (by omega)).trans (if_neg (fun q => q k))
def cash (v : Ev) (u : Int) : Int := P.cost u v.ca
def cV (v : Ev) (u : Int) : Int := if uE v u = 0 then cash v u else 0
def fr (v : Ev) (u : Int) : Int := if v.fo = 0 then 0 else u * v.gi / v.fo
def le (v : Ev) (u : Int) : Int := if v.fo = 0 then 0 else u * v.gi % v.fo
def fV (v : Ev) (u : Int) : Int := if uE v u = 0 then fr v u else 0
def lV (v : Ev) (u : Int) : Int := if uE v u = 0 then le v u else 0
theorem mul_bd {v : Ev} {u : Int} (h : Ok v) (hu : 0 ≤ u ∧ u ≤ 1073741824) : 0 ≤ u * v.gi ∧ u * v.gi ≤ 1073741824000 := by
  obtain ⟨_, _, h3, _⟩ := h
  have h1 := Int.mul_nonneg hu.1 h3.1
  have h2 := Int.mul_le_mul hu.2 h3.2 h3.1 (show (0 : Int) ≤ 1073741824 by omega)
  omega
theorem fr_bd {v : Ev} {u : Int} (h : Ok v) (hu : 0 ≤ u ∧ u ≤ 1073741824) : 0 ≤ fr v u ∧ fr v u ≤ 1073741824000 := by
  have hm := mul_bd h hu
  have h4 := h.2.2.2
  unfold fr
  split
  · omega
  · have h1 := Int.ediv_nonneg hm.1 h4.1
    have h2 := Int.ediv_le_self v.fo hm.1
    omega
theorem le_bd {v : Ev} {u : Int} (h : Ok v) : 0 ≤ le v u ∧ le v u ≤ 1000 := by
  have h4 := h.2.2.2
  unfold le
  split
  · omega
  · have h1 := Int.emod_nonneg (u * v.gi) (show v.fo ≠ 0 by assumption)
    have h2 := Int.emod_lt_of_pos (u * v.gi) (show 0 < v.fo by omega)
    omega
theorem fr_zero (v : Ev) : fr v 0 = 0 := by unfold fr; split <;> simp
theorem cash_zero (v : Ev) : cash v 0 = 0 := by unfold cash P.cost; simp
theorem cash_bd {v : Ev} {u : Int} (h : Ok v) (hu : 0 ≤ u ∧ u ≤ 1073741824) : 0 ≤ cash v u ∧ cash v u ≤ 118059162071741130 := P.cost_bd hu h.2.1
def xE (v : Ev) (fs : List Fl) : Int := if ev v ≠ 0 then ev v else F.checks fs
theorem xE_1 {v : Ev} {fs : List Fl} (h : ¬ ev v = 0) : xE v fs = ev v := if_pos h
theorem xE_2 {v : Ev} {fs : List Fl} (h : ev v = 0) : xE v fs = F.checks fs := if_neg (by omega)
theorem xE_ok {v : Ev} {fs : List Fl} (h : xE v fs = 0) : ev v = 0 ∧ F.checks fs = 0 := by
  unfold xE at h
  split at h
  · exact absurd h ‹_›
  · exact ⟨by omega, h⟩
/-- what one brings -/
def duO (v : Ev) (f : Fl) : List Du := if f.pa = v.pa ∧ 0 < F.left f ∧ 0 < cash v (F.left f) then [⟨f.fr, f.to, cash v (F.left f)⟩] else []
def poO (v : Ev) (f : Fl) : List Po := if f.pa = v.pa ∧ 0 < F.left f ∧ 0 < fr v (F.left f) then [⟨f.fr, v.pa, -fr v (F.left f)⟩, ⟨f.to, v.pa, fr v (F.left f)⟩] else []
def dus (v : Ev) (fs : List Fl) : List Du := fs.flatMap (duO v)
def pos (v : Ev) (fs : List Fl) : List Po := fs.flatMap (poO v)
theorem dus_snoc {v : Ev} {fs : List Fl} {k : Nat} (h : k < fs.length) : dus v (fs.take (k + 1)) = dus v (fs.take k) ++ duO v (fs.getD k default) := by
  unfold dus
  rw [List.take_succ_eq_append_getElem h, List.flatMap_append, getD_at h]; simp
theorem pos_snoc {v : Ev} {fs : List Fl} {k : Nat} (h : k < fs.length) : pos v (fs.take (k + 1)) = pos v (fs.take k) ++ poO v (fs.getD k default) := by
  unfold pos
  rw [List.take_succ_eq_append_getElem h, List.flatMap_append, getD_at h]; simp
theorem duO_len (v : Ev) (f : Fl) : (duO v f).length ≤ 1 := by unfold duO; split <;> simp
theorem poO_len (v : Ev) (f : Fl) : (poO v f).length ≤ 2 := by unfold poO; split <;> simp
theorem dus_len (v : Ev) : ∀ fs : List Fl, (dus v fs).length ≤ fs.length
  | [] => Nat.le_refl _
  | f :: fs => by
    have := dus_len v fs
    have := duO_len v f
    unfold dus at *
    rw [List.flatMap_cons, List.length_append, List.length_cons]; omega
theorem pos_len (v : Ev) : ∀ fs : List Fl, (pos v fs).length ≤ 2 * fs.length
  | [] => Nat.le_refl _
  | f :: fs => by
    have := pos_len v fs
    have := poO_len v f
    unfold pos at *
    rw [List.flatMap_cons, List.length_append, List.length_cons]; omega
def dV (v : Ev) (fs : List Fl) : List Du := if xE v fs = 0 then dus v fs else []
def pV (v : Ev) (fs : List Fl) : List Po := if xE v fs = 0 then pos v fs else []
/-- what grows -/
def up (f : Fl) (n : Int) : Fl := ⟨f.id, f.fr, f.to, f.cl, f.pa, f.day, f.un + n, f.de, f.bo, f.pd⟩
def gr (v : Ev) (f : Fl) : Fl := if f.pa = v.pa then up f (fr v (F.left f)) else f
def big (v : Ev) (fs : List Fl) : Prop := ∃ f ∈ fs, 1073741824 < (gr v f).un
noncomputable def gE (v : Ev) (fs : List Fl) : Int := open Classical in if xE v fs ≠ 0 then xE v fs else if big v fs then 8 else 0
noncomputable def gV (v : Ev) (fs : List Fl) : List Fl := if gE v fs = 0 then fs.map (gr v) else []
theorem g_1 {v : Ev} {fs : List Fl} (h : ¬ xE v fs = 0) : gE v fs = xE v fs ∧ gV v fs = [] := by
  have e : gE v fs = xE v fs := if_pos h
  exact ⟨e, if_neg (by omega)⟩
theorem g_2 {v : Ev} {fs : List Fl} (h : xE v fs = 0) (k : big v fs) : gE v fs = 8 ∧ gV v fs = [] := by
  have e : gE v fs = 8 := by unfold gE; rw [if_neg (by omega), if_pos k]
  exact ⟨e, if_neg (by omega)⟩
theorem g_3 {v : Ev} {fs : List Fl} (h : xE v fs = 0) (k : ¬ big v fs) : gE v fs = 0 ∧ gV v fs = fs.map (gr v) := by
  have e : gE v fs = 0 := by unfold gE; rw [if_neg (by omega), if_neg k]
  exact ⟨e, if_pos e⟩
theorem g_ok {v : Ev} {fs : List Fl} (h : gE v fs = 0) : xE v fs = 0 ∧ ¬ big v fs ∧ gV v fs = fs.map (gr v) := by
  by_cases a : xE v fs = 0
  · by_cases b : big v fs
    · rw [(g_2 a b).1] at h; omega
    · exact ⟨a, b, (g_3 a b).2⟩
  · rw [(g_1 a).1] at h; exact absurd h a
def grk (v : Ev) (fs : List Fl) (k : Nat) : List Fl := (fs.take k).map (gr v) ++ fs.drop k
theorem grk_len (v : Ev) (fs : List Fl) (k : Nat) : (grk v fs k).length = fs.length := by simp [grk]; omega
theorem grk_at {v : Ev} {fs : List Fl} {k : Nat} (h : k < fs.length) : (grk v fs k).getD k default = fs.getD k default := by
  unfold grk
  rw [List.getD_eq_getElem?_getD, List.getElem?_append_right (by simp; omega), List.getElem?_drop, List.getD_eq_getElem?_getD]
  congr 2
  simp; omega
theorem grk_succ {v : Ev} {fs : List Fl} {k : Nat} (h : k < fs.length) : (grk v fs k).set k (gr v (fs.getD k default)) = grk v fs (k + 1) := by
  unfold grk
  rw [List.set_append_right _ _ (by simp; omega), List.drop_eq_getElem_cons h, List.take_succ_eq_append_getElem h, List.map_append, List.append_assoc, getD_at h]
  congr 1
  have e : k - ((fs.take k).map (gr v)).length = 0 := by simp; omega
  rw [e]; rfl
theorem grk_same {v : Ev} {fs : List Fl} {k : Nat} (h : k < fs.length) (e : gr v (fs.getD k default) = fs.getD k default) : grk v fs (k + 1) = grk v fs k := by
  unfold grk
  rw [List.take_succ_eq_append_getElem h, List.map_append, List.append_assoc, List.drop_eq_getElem_cons h, ← getD_at h, List.map_cons, e]
  rfl
theorem grk_end (v : Ev) (fs : List Fl) : grk v fs fs.length = fs.map (gr v) := by simp [grk]
theorem gr_zero {v : Ev} {f : Fl} (h : ¬ (f.pa = v.pa ∧ 0 < F.left f)) (h2 : 0 ≤ F.left f) : gr v f = f := by
  unfold gr
  split
  · have e : F.left f = 0 := by omega
    rw [e, fr_zero]
    unfold up; rw [Int.add_zero]
  · rfl
theorem gr_pos {v : Ev} {f : Fl} (h : f.pa = v.pa) : gr v f = up f (fr v (F.left f)) := if_pos h
theorem dus_no {v : Ev} {fs : List Fl} (h : ∀ f ∈ fs, duO v f = []) : dus v fs = [] := List.flatMap_eq_nil_iff.2 h
theorem pos_no {v : Ev} {fs : List Fl} (h : ∀ f ∈ fs, poO v f = []) : pos v fs = [] := List.flatMap_eq_nil_iff.2 h
theorem map_same {v : Ev} : ∀ {fs : List Fl}, (∀ f ∈ fs, gr v f = f) → fs.map (gr v) = fs
  | [], _ => rfl
  | f :: fs, h => by rw [List.map_cons, h f (by simp), map_same fun g hg => h g (by simp [hg])]
/-- where no fail grows -/
theorem g_same {v : Ev} {fs : List Fl} (hx : xE v fs = 0) (h : ∀ f ∈ fs, gr v f = f) : gE v fs = 0 ∧ gV v fs = fs := by
  obtain ⟨_, hall, _⟩ := K.checks_all (xE_ok hx).2
  obtain ⟨a, b⟩ := g_3 hx fun ⟨f, h1, h2⟩ => by
    rw [h f h1] at h2
    have := (F.ok_bounds (hall f h1)).2.2.1
    omega
  exact ⟨a, b.trans (map_same h)⟩
theorem no_cash {v : Ev} (h : v.ca = 0) (f : Fl) : duO v f = [] := if_neg fun q => by
  have e : cash v (F.left f) = 0 := by unfold cash P.cost; rw [h]; simp
  omega
theorem no_fresh {v : Ev} (h : v.fo = 0) (u : Int) : fr v u = 0 := if_pos h
theorem no_pos {v : Ev} (h : v.fo = 0) (f : Fl) : poO v f = [] := if_neg fun q => by rw [no_fresh h] at q; omega
theorem no_gr {v : Ev} (h : v.fo = 0) (f : Fl) : gr v f = f := by
  unfold gr up; rw [no_fresh h, Int.add_zero]; split <;> rfl
theorem oth_du {v : Ev} {f : Fl} (h : ¬ f.pa = v.pa) : duO v f = [] := if_neg fun q => h q.1
theorem oth_po {v : Ev} {f : Fl} (h : ¬ f.pa = v.pa) : poO v f = [] := if_neg fun q => h q.1
theorem oth_gr {v : Ev} {f : Fl} (h : ¬ f.pa = v.pa) : gr v f = f := if_neg h
theorem up_left (f : Fl) (n : Int) : F.left (up f n) = F.left f + n := by unfold F.left up; dsimp only; omega
theorem up_ok {f : Fl} {n : Int} (h : F.Ok f) (hn : 0 ≤ n) (hb : ¬ 1073741824 < f.un + n) : F.Ok (up f n) := by
  have hb := F.ok_bounds h
  unfold F.Ok F.Kn F.Pt up at *
  dsimp only at *
  omega
theorem gr_id (v : Ev) (f : Fl) : (gr v f).id = f.id := by unfold gr up; split <;> rfl
theorem gr_ok {v : Ev} {f : Fl} (hv : Ok v) (h : F.Ok f) (hb : ¬ 1073741824 < (gr v f).un) : F.Ok (gr v f) := by
  unfold gr at *
  split
  · rw [if_pos (by assumption)] at hb
    exact up_ok h (fr_bd hv (K.left_bd h)).1 hb
  · exact h
/-- what has grown can be checked -/
theorem grown_checks {v : Ev} {fs : List Fl} (h : gE v fs = 0) : F.checks (fs.map (gr v)) = 0 := by
  obtain ⟨hx, hb, _⟩ := g_ok h
  obtain ⟨hv, hF⟩ := xE_ok hx
  obtain ⟨n60, hall, hn⟩ := K.checks_all hF
  refine K.checks_of (by simpa using n60) (fun g hg => ?_) ?_
  · obtain ⟨f, hf, rfl⟩ := List.mem_map.1 hg
    exact gr_ok (ev_ok hv).1 (hall f hf) fun q => hb ⟨f, hf, q⟩
  · rw [List.map_map]
    have e : ((fun x : Fl => x.id) ∘ gr v) = fun x => x.id := funext fun f => gr_id v f
    rw [e]; exact hn
end C
end Go.Proofs.Yticbaaigcmmggaa

/- The walk of the checks of fails, with a set of ids; as a contract. -/
namespace Go.Proofs.Yticbaaigcmmggaa
open Go.RowKit Go.Maps
set_option maxRecDepth 100000

/-- the slice at A holds the fails of l, below block B -/
def FailsAt (w : World) (B : Nat) (A : Option Addr) (l : List Fl) : Prop := ∀ k (hk : k < l.length), ∃ b off, A = some ⟨b, off, none⟩ ∧ b < B ∧
  w.cell? ⟨b, off + k * 10, none⟩ = some (.int .i64 l[k].id) ∧ w.cell? ⟨b, off + k * 10 + 1, none⟩ = some (.int .i64 l[k].fr) ∧ w.cell? ⟨b, off + k * 10 + 2, none⟩ = some (.int .i64 l[k].to) ∧
  w.cell? ⟨b, off + k * 10 + 3, none⟩ = some (.int .i64 l[k].cl) ∧ w.cell? ⟨b, off + k * 10 + 4, none⟩ = some (.int .i64 l[k].pa) ∧ w.cell? ⟨b, off + k * 10 + 5, none⟩ = some (.int .i64 l[k].day) ∧
  w.cell? ⟨b, off + k * 10 + 6, none⟩ = some (.int .i64 l[k].un) ∧ w.cell? ⟨b, off + k * 10 + 7, none⟩ = some (.int .i64 l[k].de) ∧ w.cell? ⟨b, off + k * 10 + 8, none⟩ = some (.int .i64 l[k].bo) ∧
  w.cell? ⟨b, off + k * 10 + 9, none⟩ = some (.int .i64 l[k].pd)
theorem FailsAt.keep {w w' : World} {B : Nat} {A : Option Addr} {l : List Fl} (h : FailsAt w B A l) (hb : Below B w w') : FailsAt w' B A l := by
  intro k hk
  obtain ⟨b, off, e, hB, c0, c1, c2, c3, c4, c5, c6, c7, c8, c9⟩ := h k hk
  have q : ∀ o, w'.cell? ⟨b, o, none⟩ = w.cell? ⟨b, o, none⟩ := fun o => hb.cell (p := ⟨b, o, none⟩) hB
  exact ⟨b, off, e, hB, (q _).trans c0, (q _).trans c1, (q _).trans c2, (q _).trans c3, (q _).trans c4, (q _).trans c5, (q _).trans c6, (q _).trans c7, (q _).trans c8, (q _).trans c9⟩
theorem FailsAt.to {w w' : World} {A : Option Addr} {l : List Fl} (h : FailsAt w w.heap.size A l) (hb : Below w.heap.size w w') : FailsAt w' w'.heap.size A l := by
  intro k hk
  obtain ⟨b, off, e, hB, r⟩ := h.keep hb k hk
  exact ⟨b, off, e, Nat.lt_of_lt_of_le hB hb.size, r⟩

/-- the set of the ids that were seen -/
def idSet (ids : List Int) : DataW Unit := setOf (.agg []) (ids.map (Lit.int .i64))
theorem idSet_zero : idSet [] = .map [] := by simp [idSet, setOf]
theorem idSet_snoc (ids : List Int) (x : Int) : idSet (ids ++ [x]) = (idSet ids).put (.int .i64 x) (.agg []) := by
  unfold idSet; rw [List.map_append]; exact setOf_snoc _ _ _
theorem any_ids (x : Int) : ∀ l : List Int, l.any ((fun y : Lit => y.sameKey (.int .i64 x)) ∘ Lit.int .i64) = l.contains x
  | [] => rfl
  | a :: r => by
    rw [List.any_cons, List.contains_cons, any_ids x r]
    congr 1
    show decide (IntKind.i64 = IntKind.i64 ∧ a = x) = (x == a)
    by_cases e : a = x
    · subst e; simp
    · have e' : ¬ x = a := fun h => e h.symm
      simp [e, e']
theorem has_ids (ids : List Int) (x : Int) : Maps.has (idSet ids) (.int .i64 x) = ids.contains x := by
  unfold idSet
  rw [has_setOf _ _ _ (fun y hy => by obtain ⟨_, _, rfl⟩ := List.mem_map.1 hy; trivial), List.any_map]
  exact any_ids x _
theorem intLaw : Keyed Try.prog 3 := int_keyed Try.underlying3
def encF (f : Fl) : List Value := [.int .i64 f.id, .int .i64 f.fr, .int .i64 f.to, .int .i64 f.cl, .int .i64 f.pa, .int .i64 f.day, .int .i64 f.un, .int .i64 f.de, .int .i64 f.bo, .int .i64 f.pd]
theorem failsAt_of {w : World} {v : Value} {l : List Fl} (h : V.ArrIs w v 10 l.length (V.ga encF l)) : ∃ A c, v = .slice A l.length c ∧ l.length ≤ 9223372036854775807 ∧ FailsAt w w.heap.size A l := by
  obtain ⟨A, c, rfl, hn, _, hh⟩ := h
  refine ⟨A, c, rfl, hn, fun k hk => ?_⟩
  obtain ⟨a, rfl, hlt, _, hc⟩ := hh k hk
  rw [V.ga_at hk] at hc
  obtain ⟨a0, e0, _, _, hc0⟩ := hh 0 (by omega)
  injection e0 with e0
  subst e0
  rw [V.ga_at (by omega)] at hc0
  have h00 := hc0 0 (.int .i64 (l[0]'(by omega)).id) rfl
  obtain ⟨b, off, spot⟩ := a
  have hspot : spot = none := by
    have : (Addr.add ⟨b, off, spot⟩ (0 * 10 + 0)) = ⟨b, off, spot⟩ := rfl
    rw [this] at h00
    simpa using World.cell?_spot h00
  subst hspot
  have at' : ∀ j u, (encF l[k])[j]? = some u → w.cell? ⟨b, off + k * 10 + j, none⟩ = some u := fun j u hu => by
    have := hc j u hu
    rwa [Go.WideShapes.add_plain, ← Nat.add_assoc] at this
  exact ⟨b, off, rfl, hlt, at' 0 _ rfl, at' 1 _ rfl, at' 2 _ rfl, at' 3 _ rfl, at' 4 _ rfl, at' 5 _ rfl, at' 6 _ rfl, at' 7 _ rfl, at' 8 _ rfl, at' 9 _ rfl⟩
end Go.Proofs.Yticbaaigcmmggaa

/- Are two lists one? -/
namespace Go.Proofs.Yticbaaigcmmggaa
open Go Go.RowKit V
set_option maxRecDepth 100000
set_option linter.unusedVariables false
instance : DecidableEq Du := fun x y => decidable_of_iff (x.fr = y.fr ∧ x.to = y.to ∧ x.am = y.am) ⟨fun h => by cases x; cases y; simp_all, fun h => by subst h; simp⟩
theorem Du_ne {x y : Du} (h : ¬ (x.fr = y.fr ∧ x.to = y.to ∧ x.am = y.am ∧ True)) : x ≠ y := fun e => by subst e; exact h (by simp)
theorem Du_eq {x y : Du} (h : x.fr = y.fr ∧ x.to = y.to ∧ x.am = y.am ∧ True) : x = y := by cases x; cases y; simp_all
instance : DecidableEq Po := fun x y => decidable_of_iff (x.ac = y.ac ∧ x.ut = y.ut ∧ x.am = y.am) ⟨fun h => by cases x; cases y; simp_all, fun h => by subst h; simp⟩
theorem Po_ne {x y : Po} (h : ¬ (x.ac = y.ac ∧ x.ut = y.ut ∧ x.am = y.am ∧ True)) : x ≠ y := fun e => by subst e; exact h (by simp)
theorem Po_eq {x y : Po} (h : x.ac = y.ac ∧ x.ut = y.ut ∧ x.am = y.am ∧ True) : x = y := by cases x; cases y; simp_all
instance : DecidableEq Fl := fun x y => decidable_of_iff (x.id = y.id ∧ x.fr = y.fr ∧ x.to = y.to ∧ x.cl = y.cl ∧ x.pa = y.pa ∧ x.day = y.day ∧ x.un = y.un ∧ x.de = y.de ∧ x.bo = y.bo ∧ x.pd = y.pd) ⟨fun h => by cases x; cases y; simp_all, fun h => by subst h; simp⟩
theorem Fl_ne {x y : Fl} (h : ¬ (x.id = y.id ∧ x.fr = y.fr ∧ x.to = y.to ∧ x.cl = y.cl ∧ x.pa = y.pa ∧ x.day = y.day ∧ x.un = y.un ∧ x.de = y.de ∧ x.bo = y.bo ∧ x.pd = y.pd ∧ True)) : x ≠ y := fun e => by subst e; exact h (by simp)
theorem Fl_eq {x y : Fl} (h : x.id = y.id ∧ x.fr = y.fr ∧ x.to = y.to ∧ x.cl = y.cl ∧ x.pa = y.pa ∧ x.day = y.day ∧ x.un = y.un ∧ x.de = y.de ∧ x.bo = y.bo ∧ x.pd = y.pd ∧ True) : x = y := by cases x; cases y; simp_all
instance : DecidableEq Lt := fun x y => decidable_of_iff (x.day = y.day ∧ x.un = y.un ∧ x.co = y.co) ⟨fun h => by cases x; cases y; simp_all, fun h => by subst h; simp⟩
theorem Lt_ne {x y : Lt} (h : ¬ (x.day = y.day ∧ x.un = y.un ∧ x.co = y.co ∧ True)) : x ≠ y := fun e => by subst e; exact h (by simp)
theorem Lt_eq {x y : Lt} (h : x.day = y.day ∧ x.un = y.un ∧ x.co = y.co ∧ True) : x = y := by cases x; cases y; simp_all
theorem v_samelots (a b : List Lt) (ha : a.length ≤ 9223372036854775807) : V.Fn Try.prog 17 [.arr 3 a.length (ga encL a), .arr 3 b.length (ga encL b)] [.one (.ref 0), .one (.ref 1)] (.bool (decide (a = b))) := by
  refine V.Fn.mk_ V.Tok V.mixed Try.func17 rfl Try.ntmps17 (by kernel_rfl) rfl rfl ?_
  repeat' ((conv => whnf); first | refine V.NCond.mk ?_ | refine V.NIf.not_ ?_ | refine V.NIf.dec_ ?_ | refine V.NIf.no (by omega) ?_ | refine V.NIf.yes (by omega) ?_ | refine V.NIf.mk (fun _ => ?_) (fun _ => ?_) | refine V.NWrap.ok (by omega) (by omega) ?_ | refine V.NWrap.u64 (by omega) (by omega) ?_ | refine V.NLt.mk (by omega) ?_ | refine V.NBoth.mk ?_ ?_ | refine V.NTF.yes (by omega) ?_ | refine V.NTF.no (by omega) ?_ | refine V.NTF.dec ?_ | refine V.NDraw.q (by exact rfl) (by kernel_rfl) ?_ | refine V.NApp.one (by first | omega | (simp; omega)) (by first | omega | (simp; omega)) ?_ | (refine V.NDraw.any (by kernel_rfl) ?_) | fail)
  rotate_left
  · exact congrArg Value.bool (decide_eq_false (by rintro rfl; omega)).symm
  (conv => whnf)
  rename_i hl
  have hl : a.length = b.length := by omega
  refine V.NLoop.auto (fun (k : Nat) => [(5, .one (.val (.int .i64 k)))]) (fun (k : Nat) => []) [] [] (fun (k : Nat) => a.length - k) (fun (k : Nat) => k ≤ a.length ∧ a.take k = b.take k) 0 ⟨by omega, by simp⟩ (by repeat' (first | exact rfl | exact Iff.rfl | exact trivial | exact (fun _ _ => rfl) | exact (fun _ h => absurd h (Nat.not_lt_zero _)) | refine ⟨?_, ?_⟩ | exact Iff.rfl | exact congrArg (fun z => V.SV.one (V.At.val (Value.int .i64 z))) (by omega))) (by repeat' (first | exact rfl | exact Iff.rfl | exact trivial | exact (fun _ _ => rfl) | exact (fun _ h => absurd h (Nat.not_lt_zero _)) | refine ⟨?_, ?_⟩ | exact Iff.rfl | exact congrArg (fun z => V.SV.one (V.At.val (Value.int .i64 z))) (by omega))) (fun _ => ⟨rfl, rfl⟩) ?_; (conv => whnf); refine ⟨⟨rfl, rfl⟩, ?_⟩
  rintro k ⟨hk, hJ⟩
  by_cases hlt : k < a.length
  · have e1 := getD_at (l := a) (by omega)
    have e2 := getD_at (l := b) (k := k) (by omega)
    repeat' ((conv => whnf); first | refine V.NCond.mk ?_ | refine V.NIf.not_ ?_ | refine V.NIf.dec_ ?_ | refine V.NIf.no (by omega) ?_ | refine V.NIf.yes (by omega) ?_ | refine V.NIf.mk (fun _ => ?_) (fun _ => ?_) | refine V.NWrap.ok (by omega) (by omega) ?_ | refine V.NWrap.u64 (by omega) (by omega) ?_ | refine V.NLt.mk (by omega) ?_ | refine V.NBoth.mk ?_ ?_ | refine V.NTF.yes (by omega) ?_ | refine V.NTF.no (by omega) ?_ | refine V.NTF.dec ?_ | refine V.NDraw.q (by exact rfl) (by kernel_rfl) ?_ | refine V.NApp.one (by first | omega | (simp; omega)) (by first | omega | (simp; omega)) ?_ | (refine NIdx.mk ⟨k, rfl, by omega, ?_⟩) | (refine V.NDraw.any (by kernel_rfl) ?_) | fail)
    all_goals (conv => whnf)
    · rename_i q
      exact V.NBack.at_ (k + 1) [] ⟨by omega, by rw [List.take_succ_eq_append_getElem hlt, List.take_succ_eq_append_getElem (by omega), hJ, ← e1, ← e2, Lt_eq q]⟩ (by omega) (by repeat' (first | exact rfl | exact Iff.rfl | exact trivial | exact (fun _ _ => rfl) | exact (fun _ h => absurd h (Nat.not_lt_zero _)) | refine ⟨?_, ?_⟩ | exact Iff.rfl | exact congrArg (fun z => V.SV.one (V.At.val (Value.int .i64 z))) (by omega))) rfl (by repeat' (first | exact rfl | exact Iff.rfl | exact trivial | exact (fun _ _ => rfl) | exact (fun _ h => absurd h (Nat.not_lt_zero _)) | refine ⟨?_, ?_⟩ | exact Iff.rfl | exact congrArg (fun z => V.SV.one (V.At.val (Value.int .i64 z))) (by omega))) (by repeat' (first | exact rfl | exact Iff.rfl | exact trivial | exact (fun _ _ => rfl) | exact (fun _ h => absurd h (Nat.not_lt_zero _)) | refine ⟨?_, ?_⟩ | exact Iff.rfl | exact congrArg (fun z => V.SV.one (V.At.val (Value.int .i64 z))) (by omega))) (by repeat' (first | exact rfl | exact Iff.rfl | exact trivial | exact (fun _ _ => rfl) | exact (fun _ h => absurd h (Nat.not_lt_zero _)) | refine ⟨?_, ?_⟩ | exact Iff.rfl | exact congrArg (fun z => V.SV.one (V.At.val (Value.int .i64 z))) (by omega)))
    · rename_i q
      exact congrArg Value.bool (decide_eq_false (by rintro rfl; exact Lt_ne q rfl)).symm
  · obtain rfl : k = a.length := by omega
    repeat' ((conv => whnf); first | refine V.NCond.mk ?_ | refine V.NIf.not_ ?_ | refine V.NIf.dec_ ?_ | refine V.NIf.no (by omega) ?_ | refine V.NIf.yes (by omega) ?_ | refine V.NIf.mk (fun _ => ?_) (fun _ => ?_) | refine V.NWrap.ok (by omega) (by omega) ?_ | refine V.NWrap.u64 (by omega) (by omega) ?_ | refine V.NLt.mk (by omega) ?_ | refine V.NBoth.mk ?_ ?_ | refine V.NTF.yes (by omega) ?_ | refine V.NTF.no (by omega) ?_ | refine V.NTF.dec ?_ | refine V.NDraw.q (by exact rfl) (by kernel_rfl) ?_ | refine V.NApp.one (by first | omega | (simp; omega)) (by first | omega | (simp; omega)) ?_ | (refine V.NDraw.any (by kernel_rfl) ?_) | fail)
    (conv => whnf)
    refine congrArg Value.bool (decide_eq_true ?_).symm
    rw [List.take_length, List.take_of_length_le (by omega)] at hJ
    exact hJ
end Go.Proofs.Yticbaaigcmmggaa

/- The document's sale of lots; what a law begins with. -/
namespace Go.Proofs.Yticbaaigcmmggaa
open Go Go.RowKit V
set_option maxRecDepth 100000
set_option linter.unusedVariables false
set_option linter.unusedSimpArgs false
set_option maxHeartbeats 4000000
theorem v_rltSell (kind : Int) : ∀ (n : Nat) (l : List Lt) (m : Int), l.length = n → l.length ≤ 40 → (∀ x ∈ l, L.Ok x) → 0 ≤ m → m ≤ L.un l → V.FnR Try.prog 14 [.arr 3 l.length (ga encL l)] [.one (.ref 0), .one (.val (.int .i64 m)), .one (.val (.int .i64 kind))] (.tup [.one (.ref 1), .one (.val (.int .i64 (L.sell kind l.length l m).2))]) [.row 24 3 (L.sell kind l.length l m).1.length (ga encL (L.sell kind l.length l m).1)]
  | 0, l, m, hn, h40, ho, h0, hm => by
    obtain rfl : l = [] := List.eq_nil_of_length_eq_zero hn
    simp only [L.un] at hm
    obtain rfl : m = 0 := by omega
    exact v_rltSell0 [] kind h40
  | n + 1, l, m, hn, h40, ho, h0, hm => by
    by_cases hz : m = 0
    · subst hz; exact v_rltSell0 l kind h40
    have ih := fun (l' : List Lt) (m' : Int) (h1 : l'.length + 1 = l.length) (h2 : l'.length ≤ 40) (h3 : ∀ x ∈ l', L.Ok x) (h4 : 0 ≤ m') (h5 : m' ≤ L.un l') => v_rltSell kind n l' m' (by omega) h2 h3 h4 h5
    by_cases k2 : kind = 2
    · subst k2; exact v_rltStep2 l m h40 ho (by omega) hm ih
    by_cases k3 : kind = 3
    · subst k3; exact v_rltStep3 l m h40 ho (by omega) hm ih
    exact v_rltStep1 kind k2 k3 l m h40 ho (by omega) hm ih
def L3 : List Lt := [⟨1, 10, 100⟩, ⟨2, 10, 300⟩, ⟨3, 7, 140⟩]
theorem v_lthree : V.FnR Try.prog 26 [] [] (.one (.ref 0)) [.arr 3 L3.length (ga encL L3)] := by
  refine V.FnR.mk_ V.Tok V.mixed Try.func26 rfl Try.ntmps26 (by kernel_rfl) rfl rfl rfl rfl ?_
  repeat' ((conv => whnf); first | refine V.NCond.mk ?_ | refine V.NIf.not_ ?_ | refine V.NIf.dec_ ?_ | refine V.NIf.no (by omega) ?_ | refine V.NIf.yes (by omega) ?_ | refine V.NIf.mk (fun _ => ?_) (fun _ => ?_) | refine V.NWrap.ok (by omega) (by omega) ?_ | refine V.NWrap.u64 (by omega) (by omega) ?_ | refine V.NLt.mk (by omega) ?_ | refine V.NBoth.mk ?_ ?_ | refine V.NTF.yes (by omega) ?_ | refine V.NTF.no (by omega) ?_ | refine V.NTF.dec ?_ | refine V.NDraw.q (by exact rfl) (by kernel_rfl) ?_ | refine V.NApp.one (by first | omega | (simp; omega)) (by first | omega | (simp; omega)) ?_ | (refine V.NDraw.any (by kernel_rfl) ?_) | fail)
  all_goals (conv => whnf)
  exact NRet.mk_ [some 1] rfl rfl ⟨⟨rfl, rfl, (by repeat' (first | exact rfl | exact Iff.rfl | exact trivial | exact (fun _ _ => rfl) | exact (fun _ h => absurd h (Nat.not_lt_zero _)) | refine ⟨?_, ?_⟩ | exact Iff.rfl | exact congrArg (fun z => V.SV.one (V.At.val (Value.int .i64 z))) (by omega)))⟩, trivial⟩
theorem L.bg1 : L.slL L3 12 1 = [⟨2, 8, 240⟩, ⟨3, 7, 140⟩] ∧ L.slC L3 12 1 = 160 ∧ L.slE L3 12 1 = 0 := ⟨by rfl, by decide +kernel, by decide +kernel⟩
theorem L.bg2 : L.slL L3 8 2 = [⟨1, 10, 100⟩, ⟨2, 9, 270⟩] ∧ L.slC L3 8 2 = 170 ∧ L.slE L3 8 2 = 0 := ⟨by rfl, by decide +kernel, by decide +kernel⟩
theorem L.bg3 : L.slL L3 3 3 = [⟨1, 10, 100⟩, ⟨2, 7, 210⟩, ⟨3, 7, 140⟩] ∧ L.slC L3 3 3 = 90 ∧ L.slE L3 3 3 = 0 := ⟨by rfl, by decide +kernel, by decide +kernel⟩
theorem L.bg4 : L.hN L3 = 27 ∧ L.hC L3 = 540 ∧ L.chk L3 = 0 := ⟨by decide +kernel, by decide +kernel, by decide +kernel⟩
theorem L.bg5 : L.chk (L3 ++ [⟨2, 1, 0⟩]) = 4 := by decide +kernel
theorem L.bg6 : L.slL L3 28 1 = [] ∧ L.slC L3 28 1 = 0 ∧ L.slE L3 28 1 = 5 := ⟨by rfl, by decide +kernel, by decide +kernel⟩
theorem v_ltBegun : V.Fn Try.prog 15 [] [] (.bool true) := by
  have a1 := v_ltSell L3 12 1 (by decide)
  have a2 := v_ltSell L3 8 2 (by decide)
  have a3 := v_ltSell L3 3 3 (by decide)
  have a4 := v_ltHas L3 (by decide)
  have a5 := v_ltBuy L3 ⟨2, 1, 0⟩ (by decide)
  have a6 := v_ltSell L3 28 1 (by decide)
  have a7 := v_samelots [⟨2, 8, 240⟩, ⟨3, 7, 140⟩] [⟨2, 8, 240⟩, ⟨3, 7, 140⟩] (by decide)
  rw [L.bg1.1, L.bg1.2.1, L.bg1.2.2] at a1
  rw [L.bg2.1, L.bg2.2.1, L.bg2.2.2] at a2
  rw [L.bg3.1, L.bg3.2.1, L.bg3.2.2] at a3
  rw [L.bg4.1, L.bg4.2.1, L.bg4.2.2] at a4
  rw [L.bg5] at a5
  rw [L.bg6.1, L.bg6.2.1, L.bg6.2.2] at a6
  refine V.Fn.mk_ V.Tok V.mixed Try.func15 rfl Try.ntmps15 (by kernel_rfl) rfl rfl ?_
  repeat' ((conv => whnf); first | (refine V.NIf.yes ?_ ?_; · (decide; done)) | (refine V.NIf.no ?_ ?_; · (decide; done)) | refine V.NCond.mk ?_ | refine V.NIf.not_ ?_ | refine V.NIf.dec_ ?_ | refine V.NIf.no (by omega) ?_ | refine V.NIf.yes (by omega) ?_ | refine V.NIf.mk (fun _ => ?_) (fun _ => ?_) | refine V.NWrap.ok (by omega) (by omega) ?_ | refine V.NWrap.u64 (by omega) (by omega) ?_ | refine V.NLt.mk (by omega) ?_ | refine V.NBoth.mk ?_ ?_ | refine V.NTF.yes (by omega) ?_ | refine V.NTF.no (by omega) ?_ | refine V.NTF.dec ?_ | refine V.NDraw.q (by exact rfl) (by kernel_rfl) ?_ | refine V.NApp.one (by first | omega | (simp; omega)) (by first | omega | (simp; omega)) ?_ | (first | refine V.FnR.k0 (v_lthree) rfl ?_ | refine V.FnR.a0 (v_lthree) rfl ?_) | ((first | refine V.FnR.k_ (a1) [0] rfl ?_ ?_ | refine V.FnR.a_ (a1) [0] rfl ?_ ?_); · ((repeat' (first | exact rfl | exact Iff.rfl | exact trivial | exact (fun _ _ => rfl) | exact (fun _ h => absurd h (Nat.not_lt_zero _)) | refine ⟨?_, ?_⟩ | exact Iff.rfl | exact congrArg (fun z => V.SV.one (V.At.val (Value.int .i64 z))) (by omega))); done)) | ((first | refine V.FnR.k_ (a2) [2] rfl ?_ ?_ | refine V.FnR.a_ (a2) [2] rfl ?_ ?_); · ((repeat' (first | exact rfl | exact Iff.rfl | exact trivial | exact (fun _ _ => rfl) | exact (fun _ h => absurd h (Nat.not_lt_zero _)) | refine ⟨?_, ?_⟩ | exact Iff.rfl | exact congrArg (fun z => V.SV.one (V.At.val (Value.int .i64 z))) (by omega))); done)) | ((first | refine V.FnR.k_ (a3) [4] rfl ?_ ?_ | refine V.FnR.a_ (a3) [4] rfl ?_ ?_); · ((repeat' (first | exact rfl | exact Iff.rfl | exact trivial | exact (fun _ _ => rfl) | exact (fun _ h => absurd h (Nat.not_lt_zero _)) | refine ⟨?_, ?_⟩ | exact Iff.rfl | exact congrArg (fun z => V.SV.one (V.At.val (Value.int .i64 z))) (by omega))); done)) | ((first | refine V.Fn.k (a4) [6] rfl ?_ ?_ | refine V.Fn.q (a4) [6] rfl ?_ ?_ | refine V.Fn.a (a4) [6] rfl ?_ ?_); · ((repeat' (first | exact rfl | exact Iff.rfl | exact trivial | exact (fun _ _ => rfl) | exact (fun _ h => absurd h (Nat.not_lt_zero _)) | refine ⟨?_, ?_⟩ | exact Iff.rfl | exact congrArg (fun z => V.SV.one (V.At.val (Value.int .i64 z))) (by omega))); done)) | ((first | refine V.FnR.k_ (a5) [7] rfl ?_ ?_ | refine V.FnR.a_ (a5) [7] rfl ?_ ?_); · ((repeat' (first | exact rfl | exact Iff.rfl | exact trivial | exact (fun _ _ => rfl) | exact (fun _ h => absurd h (Nat.not_lt_zero _)) | refine ⟨?_, ?_⟩ | exact Iff.rfl | exact congrArg (fun z => V.SV.one (V.At.val (Value.int .i64 z))) (by omega))); done)) | ((first | refine V.FnR.k_ (a6) [9] rfl ?_ ?_ | refine V.FnR.a_ (a6) [9] rfl ?_ ?_); · ((repeat' (first | exact rfl | exact Iff.rfl | exact trivial | exact (fun _ _ => rfl) | exact (fun _ h => absurd h (Nat.not_lt_zero _)) | refine ⟨?_, ?_⟩ | exact Iff.rfl | exact congrArg (fun z => V.SV.one (V.At.val (Value.int .i64 z))) (by omega))); done)) | ((first | refine V.Fn.k (a7) [1, 11] rfl ?_ ?_ | refine V.Fn.q (a7) [1, 11] rfl ?_ ?_ | refine V.Fn.a (a7) [1, 11] rfl ?_ ?_); · ((repeat' (first | exact rfl | exact Iff.rfl | exact trivial | exact (fun _ _ => rfl) | exact (fun _ h => absurd h (Nat.not_lt_zero _)) | refine ⟨?_, ?_⟩ | exact Iff.rfl | exact congrArg (fun z => V.SV.one (V.At.val (Value.int .i64 z))) (by omega))); done)) | (refine NIdx.mk ⟨1, rfl, by decide, ?_⟩) | (refine V.NLt.mk (by decide) ?_) | (refine V.NDraw.any (by kernel_rfl) ?_) | fail)
  all_goals (conv => whnf)
  exact ⟨true, rfl, iff_of_true rfl rfl⟩
end Go.Proofs.Yticbaaigcmmggaa

/- Plain laws of lots: what is sold of two sales, and of one; that by the dearest most cost goes. -/
namespace Go.Proofs.Yticbaaigcmmggaa
set_option linter.unusedVariables false
namespace L
/-- a sale leaves the days' order -/
theorem sell_days (kind : Int) : ∀ (n : Nat) (l : List Lt) (m : Int), ((sell kind n l m).1.map Lt.day).Sublist (l.map Lt.day)
  | 0, l, m => List.Sublist.refl _
  | n + 1, l, m => by
    by_cases z : m ≤ 0
    · rw [sell_end kind _ _ z]
      exact List.Sublist.refl _
    · by_cases k : (l.getD (pick kind l) default).un ≤ m
      · rw [sell_all (by omega) k]
        refine (sell_days kind n _ _).trans ?_
        rw [← List.eraseIdx_eq_take_drop_succ]
        exact (List.eraseIdx_sublist _ _).map _
      · rw [sell_part (by omega) k]
        by_cases h : pick kind l < l.length
        · rw [List.map_set]
          dsimp only
          rw [show (l.getD (pick kind l) default).day = (l.map Lt.day)[pick kind l]'(by simpa using h) from by rw [getD_at h]; simp, List.set_getElem_self]
          exact List.Sublist.refl _
        · rw [List.set_eq_of_length_le (by omega)]
          exact List.Sublist.refl _
theorem sell_oks {kind : Int} {l : List Lt} {m : Int} (h : Oks l) (h0 : 0 ≤ m) (hm : m ≤ un l) : Oks (sell kind l.length l m).1 := by
  have k := sell_keeps kind l.length l m (Nat.le_refl _) h.2.1 h0 hm
  refine ⟨by have := h.1; omega, k.2.2.2.2, ?_⟩
  have p : (l.map Lt.day).Pairwise (fun a b => a ≤ b) := List.pairwise_map.2 h.2.2
  exact List.pairwise_map.1 (p.sublist (sell_days kind _ _ _))
theorem slE_ok {l : List Lt} {m kind : Int} (h : slE l m kind = 0) : chk l = 0 ∧ (1 ≤ kind ∧ kind ≤ 3) ∧ (1 ≤ m ∧ m ≤ 42949672960) ∧ m ≤ un l := by
  have h0 : chk l = 0 := Classical.byContradiction fun q => by rw [slE_1 q] at h; exact q h
  have hk : ¬ (kind < 1 ∨ 3 < kind) := fun q => by rw [slE_2 h0 q] at h; omega
  have hm : ¬ (m < 1 ∨ 42949672960 < m) := fun q => by rw [slE_3 h0 hk q] at h; omega
  have hu : ¬ un l < m := fun q => by rw [slE_4 h0 hk hm q] at h; omega
  omega
theorem slE_of {l : List Lt} {m kind : Int} (h0 : chk l = 0) (hk : 1 ≤ kind ∧ kind ≤ 3) (hm : 1 ≤ m ∧ m ≤ 42949672960) (hu : m ≤ un l) : slE l m kind = 0 := slE_5 h0 (by omega) (by omega) (by omega)
theorem slE_kind {l : List Lt} {m : Int} (k k' : Int) (h : 1 ≤ k ∧ k ≤ 3) (h' : 1 ≤ k' ∧ k' ≤ 3) : slE l m k = slE l m k' := by
  unfold slE
  rw [if_neg (c := k < 1 ∨ 3 < k) (by omega), if_neg (c := k' < 1 ∨ 3 < k') (by omega)]
/-- what is left, and what went -/
theorem keep {l : List Lt} {m kind : Int} (h : slE l m kind = 0) : chk (slL l m kind) = 0 ∧ hN (slL l m kind) = hN l - m ∧ hC (slL l m kind) + slC l m kind = hC l ∧ 0 ≤ slC l m kind ∧ (slL l m kind).length ≤ l.length := by
  obtain ⟨h0, hk, hm, hu⟩ := slE_ok h
  obtain ⟨e1, e2⟩ := sl_yes h
  have ok := chk_ok h0
  have k := sell_keeps kind l.length l m (Nat.le_refl _) ok.2.1 (by omega) hu
  have c := chk_of (sell_oks (kind := kind) ok (by omega) hu)
  unfold hN hC
  rw [e1, e2, if_pos c, if_pos h0, if_pos c, if_pos h0]
  exact ⟨c, k.1, k.2.1, k.2.2.1, k.2.2.2.1⟩
/-- what was bought last is sold first by the newest -/
theorem back {l : List Lt} {b : Lt} (h : chk (l ++ [b]) = 0) : slE (l ++ [b]) b.un 2 = 0 ∧ slL (l ++ [b]) b.un 2 = l ∧ slC (l ++ [b]) b.un 2 = b.co := by
  have ok := chk_ok h
  have ob := ok.2.1 b (by simp)
  have ub := sums_bd (l := l) fun x hx => ok.2.1 x (by simp [hx])
  unfold Ok at ob
  have e : slE (l ++ [b]) b.un 2 = 0 := slE_of h (by omega) (by omega) (by rw [un_app]; simp only [un]; omega)
  obtain ⟨e1, e2⟩ := sl_yes e
  have pk : pick 2 (l ++ [b]) = l.length := by unfold pick; rw [if_pos rfl]; simp
  have gd : (l ++ [b]).getD l.length default = b := by rw [getD_at (by simp)]; simp
  have sa := sell_all (kind := 2) (n := l.length) (l := l ++ [b]) (m := b.un) (by omega) (by rw [pk, gd]; exact Int.le_refl _)
  rw [pk, gd, sell_end 2 l.length _ (by omega)] at sa
  rw [e1, e2, show (l ++ [b]).length = l.length + 1 by simp, sa]
  exact ⟨e, by simp, by simp⟩
/-- sales off the front -/
def sl1 : List Lt → Int → List Lt × Int
  | [], _ => ([], 0)
  | x :: r, m => if m ≤ 0 then (x :: r, 0) else if x.un ≤ m then ((sl1 r (m - x.un)).1, x.co + (sl1 r (m - x.un)).2) else (⟨x.day, x.un - m, x.co - part x m⟩ :: r, part x m)
theorem sl1_0 (x : Lt) (r : List Lt) {m : Int} (h : m ≤ 0) : sl1 (x :: r) m = (x :: r, 0) := if_pos h
theorem sl1_1 (x : Lt) (r : List Lt) {m : Int} (h : ¬ m ≤ 0) (k : x.un ≤ m) : sl1 (x :: r) m = ((sl1 r (m - x.un)).1, x.co + (sl1 r (m - x.un)).2) := (if_neg h).trans (if_pos k)
theorem sl1_2 (x : Lt) (r : List Lt) {m : Int} (h : ¬ m ≤ 0) (k : ¬ x.un ≤ m) : sl1 (x :: r) m = (⟨x.day, x.un - m, x.co - part x m⟩ :: r, part x m) := (if_neg h).trans (if_neg k)
theorem sl1_z (l : List Lt) {m : Int} (h : m ≤ 0) : sl1 l m = (l, 0) := by
  cases l with
  | nil => rfl
  | cons x r => exact sl1_0 x r h
theorem sell_1 : ∀ (l : List Lt) (m : Int), sell 1 l.length l m = sl1 l m
  | [], m => rfl
  | x :: r, m => by
    by_cases z : m ≤ 0
    · rw [sell_end 1 _ _ z, sl1_0 x r z]
    · have pk : pick 1 (x :: r) = 0 := rfl
      by_cases k : x.un ≤ m
      · have sa := sell_all (kind := 1) (n := r.length) (l := x :: r) (m := m) (by omega) (by rw [pk]; exact k)
        rw [pk] at sa
        rw [List.length_cons, sa, sl1_1 x r z k, ← sell_1 r]
        rfl
      · have sp := sell_part (kind := 1) (n := r.length) (l := x :: r) (m := m) (by omega) (by rw [pk]; exact k)
        rw [pk] at sp
        rw [List.length_cons, sp, sl1_2 x r z k]
        rfl
theorem sell_2 : ∀ (n : Nat) (l : List Lt) (m : Int), l.length = n → sell 2 l.length l m = ((sl1 l.reverse m).1.reverse, (sl1 l.reverse m).2)
  | 0, l, m, hn => by
    obtain rfl : l = [] := List.eq_nil_of_length_eq_zero hn
    rfl
  | n + 1, l, m, hn => by
    obtain ⟨r, x, rfl⟩ : ∃ r x, l = r ++ [x] := ⟨l.dropLast, l.getLast (by intro q; subst q; simp at hn), (List.dropLast_concat_getLast _).symm⟩
    have hr : r.length = n := by simpa using hn
    have e : (r ++ [x]).reverse = x :: r.reverse := by simp
    have pk : pick 2 (r ++ [x]) = r.length := by unfold pick; rw [if_pos rfl]; simp
    have gd : (r ++ [x]).getD r.length default = x := by rw [getD_at (by simp)]; simp
    have len : (r ++ [x]).length = r.length + 1 := by simp
    rw [e]
    by_cases z : m ≤ 0
    · rw [sell_end 2 _ _ z, sl1_0 x _ z]; simp
    · by_cases k : x.un ≤ m
      · have sa := sell_all (kind := 2) (n := r.length) (l := r ++ [x]) (m := m) (by omega) (by rw [pk, gd]; exact k)
        rw [pk, gd] at sa
        have td : (r ++ [x]).take r.length ++ (r ++ [x]).drop (r.length + 1) = r := by simp
        rw [td, sell_2 n r _ hr] at sa
        rw [len, sa, sl1_1 x _ z k]
      · have sp := sell_part (kind := 2) (n := r.length) (l := r ++ [x]) (m := m) (by omega) (by rw [pk, gd]; exact k)
        rw [pk, gd] at sp
        rw [len, sp, sl1_2 x _ z k]
        simp
theorem two_parts {c u a b : Int} (hc : 0 ≤ c) (ha : 0 ≤ a) (hb : 0 ≤ b) (h : a + b < u) : c * a / u + (c - c * a / u) * b / (u - a) ≤ c * (a + b) / u ∧ c * (a + b) / u ≤ c * a / u + (c - c * a / u) * b / (u - a) + 1 := by
  have e1 := Int.mul_ediv_add_emod (c * a) u
  have r1 := Int.emod_nonneg (c * a) (b := u) (by omega)
  have r2 := Int.emod_lt_of_pos (c * a) (b := u) (by omega)
  generalize c * a / u = p at *
  generalize c * a % u = R at *
  have e2 := Int.mul_ediv_add_emod ((c - p) * b) (u - a)
  have s1 := Int.emod_nonneg ((c - p) * b) (b := u - a) (by omega)
  have s2 := Int.emod_lt_of_pos ((c - p) * b) (b := u - a) (by omega)
  generalize (c - p) * b / (u - a) = q at *
  generalize (c - p) * b % (u - a) = S at *
  have k1 : (c - p) * u = c * (u - a) + R := by grind
  have k2 : ((u - a) * q + S) * u = c * (u - a) * b + R * b := by rw [e2]; grind
  have rb : R * b ≤ R * (u - a) := Int.mul_le_mul_of_nonneg_left (by omega) r1
  have rb0 : 0 ≤ R * b := Int.mul_nonneg r1 hb
  have su : 0 ≤ S * u := Int.mul_nonneg s1 (by omega)
  have su2 : S * u < (u - a) * u := Int.mul_lt_mul_of_pos_right s2 (by omega)
  have t1 : (u - a) * (q * u) ≤ (u - a) * (c * b + R) := by
    have x1 : (u - a) * (q * u) = ((u - a) * q + S) * u - S * u := by grind
    have x2 : (u - a) * (c * b + R) = c * (u - a) * b + R * (u - a) := by grind
    omega
  have t2 : q * u ≤ c * b + R := Int.le_of_mul_le_mul_left t1 (by omega)
  have t3 : (u - a) * (c * b) < (u - a) * ((q + 1) * u) := by
    have x1 : (u - a) * ((q + 1) * u) = ((u - a) * q + S) * u - S * u + (u - a) * u := by grind
    have x2 : (u - a) * (c * b) = c * (u - a) * b := by grind
    omega
  have t4 : c * b < (q + 1) * u := Int.lt_of_mul_lt_mul_left t3 (by omega)
  constructor
  · refine Int.le_ediv_of_mul_le (by omega) ?_
    have x1 : (p + q) * u = u * p + q * u := by grind
    have x2 : c * (a + b) = c * a + c * b := by grind
    omega
  · have : c * (a + b) / u < p + q + 2 := by
      refine Int.ediv_lt_of_lt_mul (by omega) ?_
      have x1 : (p + q + 2) * u = u * p + (q + 1) * u + u := by grind
      have x2 : c * (a + b) = c * a + c * b := by grind
      omega
    omega
def dun (l : List Lt) : List (Int × Int) := l.map fun x => (x.day, x.un)
theorem parts_1 : ∀ (l : List Lt) (a b : Int), (∀ x ∈ l, Ok x) → 0 ≤ a → 0 ≤ b → dun (sl1 (sl1 l a).1 b).1 = dun (sl1 l (a + b)).1 ∧ (sl1 l a).2 + (sl1 (sl1 l a).1 b).2 ≤ (sl1 l (a + b)).2 ∧ (sl1 l (a + b)).2 ≤ (sl1 l a).2 + (sl1 (sl1 l a).1 b).2 + 1
  | [], a, b, _, _, _ => by simp [sl1, dun]
  | x :: r, a, b, ho, ha, hb => by
    have ox := ho x (by simp)
    unfold Ok at ox
    by_cases z : a ≤ 0
    · obtain rfl : a = 0 := by omega
      rw [sl1_0 x r z, Int.zero_add]
      exact ⟨rfl, by dsimp only; omega, by dsimp only; omega⟩
    by_cases k : x.un ≤ a
    · have ih := parts_1 r (a - x.un) b (fun y hy => ho y (by simp [hy])) (by omega) hb
      rw [sl1_1 x r z k, sl1_1 x r (m := a + b) (by omega) (by omega), show a + b - x.un = a - x.un + b by omega]
      exact ⟨ih.1, by dsimp only; omega, by dsimp only; omega⟩
    · rw [sl1_2 x r z k]
      dsimp only
      by_cases zb : b ≤ 0
      · obtain rfl : b = 0 := by omega
        rw [sl1_0 _ r zb, Int.add_zero, sl1_2 x r z k]
        exact ⟨rfl, by dsimp only; omega, by dsimp only; omega⟩
      by_cases kb : x.un - a ≤ b
      · rw [sl1_1 _ r zb kb, sl1_1 x r (m := a + b) (by omega) (by omega)]
        dsimp only
        rw [show b - (x.un - a) = a + b - x.un by omega]
        exact ⟨rfl, by omega, by omega⟩
      · rw [sl1_2 _ r zb kb, sl1_2 x r (m := a + b) (by omega) (by omega)]
        have t := two_parts (c := x.co) (u := x.un) (a := a) (b := b) (by omega) ha hb (by omega)
        unfold part dun
        dsimp only [List.map_cons]
        rw [show x.un - a - b = x.un - (a + b) by omega]
        exact ⟨rfl, by omega, by omega⟩
theorem dun_rev (l : List Lt) : dun l.reverse = (dun l).reverse := by unfold dun; rw [List.map_reverse]
/-- two sales, and one of both -/
theorem parts {l : List Lt} {a b kind : Int} (hk : kind ≠ 3) (h : slE l a kind = 0) (k : slE (slL l a kind) b kind = 0) :
    slE l (a + b) kind = 0 ∧ dun (slL (slL l a kind) b kind) = dun (slL l (a + b) kind) ∧ slC l a kind + slC (slL l a kind) b kind ≤ slC l (a + b) kind ∧ slC l (a + b) kind ≤ slC l a kind + slC (slL l a kind) b kind + 1 := by
  obtain ⟨h0, hkd, hm, hu⟩ := slE_ok h
  obtain ⟨k0, _, km, ku⟩ := slE_ok k
  obtain ⟨e1, e2⟩ := sl_yes h
  obtain ⟨f1, f2⟩ := sl_yes k
  have ok := chk_ok h0
  have kp := sell_keeps kind l.length l a (Nat.le_refl _) ok.2.1 (by omega) hu
  have sb := sums_bd ok.2.1
  have n40 := ok.1
  have ku2 : b ≤ un l - a := by rw [e1] at ku; rw [kp.1] at ku; exact ku
  have g : slE l (a + b) kind = 0 := slE_of h0 hkd (by omega) (by omega)
  obtain ⟨g1, g2⟩ := sl_yes g
  refine ⟨g, ?_⟩
  rw [f1, f2, g1, g2, e1, e2]
  rcases (by omega : kind = 1 ∨ kind = 2) with rfl | rfl
  · rw [sell_1 l a, sell_1 l (a + b), sell_1]
    exact parts_1 l a b ok.2.1 (by omega) (by omega)
  · rw [sell_2 _ l a rfl, sell_2 _ l (a + b) rfl, sell_2 _ _ b rfl]
    have p := parts_1 l.reverse a b (fun x hx => ok.2.1 x (by simpa using hx)) (by omega) (by omega)
    dsimp only
    rw [List.reverse_reverse, dun_rev, dun_rev, p.1]
    exact ⟨rfl, p.2⟩
/-- all is sold -/
theorem all_ {l : List Lt} {kind : Int} (h : chk l = 0) (hk : 1 ≤ kind ∧ kind ≤ 3) (hn : un l ≠ 0) : slE l (un l) kind = 0 ∧ slL l (un l) kind = [] ∧ slC l (un l) kind = co l := by
  have ok := chk_ok h
  have sb := sums_bd ok.2.1
  have n40 := ok.1
  have e : slE l (un l) kind = 0 := slE_of h hk (by omega) (Int.le_refl _)
  obtain ⟨e1, e2⟩ := sl_yes e
  have k := sell_keeps kind l.length l (un l) (Nat.le_refl _) ok.2.1 (by omega) (Int.le_refl _)
  have s2 := sums_bd k.2.2.2.2
  rw [e1, e2]
  generalize sell kind l.length l (un l) = R at *
  have z : R.1 = [] := List.eq_nil_of_length_eq_zero (by omega)
  refine ⟨e, z, ?_⟩
  rw [z] at k
  simp only [co] at k
  omega
theorem sell_one {k : Int} : ∀ {n : Nat} {l : List Lt} {m : Int}, l.length ≤ 1 → sell k n l m = sell 1 n l m
  | 0, l, m, h => rfl
  | n + 1, l, m, h => by
    by_cases z : m ≤ 0
    · rw [sell_end _ _ _ z, sell_end _ _ _ z]
    · have pk : pick k l = 0 := by
        unfold pick
        split
        · omega
        · split
          · have := bst_lt l l.length; omega
          · rfl
      have pk1 : pick 1 l = 0 := rfl
      by_cases q : (l.getD 0 default).un ≤ m
      · have a1 := sell_all (kind := k) (n := n) (l := l) (m := m) (by omega) (by rw [pk]; exact q)
        have a2 := sell_all (kind := 1) (n := n) (l := l) (m := m) (by omega) (by rw [pk1]; exact q)
        rw [pk] at a1
        rw [pk1] at a2
        rw [a1, a2, sell_one (by simp; omega)]
      · have a1 := sell_part (kind := k) (n := n) (l := l) (m := m) (by omega) (by rw [pk]; exact q)
        have a2 := sell_part (kind := 1) (n := n) (l := l) (m := m) (by omega) (by rw [pk1]; exact q)
        rw [pk] at a1
        rw [pk1] at a2
        rw [a1, a2]
theorem one_way {l : List Lt} {k m : Int} (h : l.length ≤ 1) (hk : 1 ≤ k ∧ k ≤ 3) : slE l m k = slE l m 1 ∧ slL l m k = slL l m 1 ∧ slC l m k = slC l m 1 := by
  have e := slE_kind (l := l) (m := m) k 1 hk (by omega)
  unfold slL slC
  rw [e, sell_one (k := k) h]
  exact ⟨rfl, rfl, rfl⟩
/-! by the dearest most cost goes -/
def pos (z : Int) : Int := if 0 ≤ z then z else 0
theorem pos_ge (z : Int) : z ≤ pos z ∧ 0 ≤ pos z := by unfold pos; split <;> omega
/-- what more than at the price of y goes at most -/
def ups (y : Lt) : List Lt → Int
  | [] => 0
  | x :: r => pos (y.un * x.co - y.co * x.un) + ups y r
theorem ups_app (y : Lt) (l m : List Lt) : ups y (l ++ m) = ups y l + ups y m := by
  induction l with
  | nil => simp [ups]
  | cons x r ih => simp only [List.cons_append, ups, ih]; omega
theorem ups_ge (y : Lt) : ∀ l, 0 ≤ ups y l
  | [] => Int.le_refl _
  | x :: r => by
    have := ups_ge y r
    have := pos_ge (y.un * x.co - y.co * x.un)
    simp only [ups]; omega
theorem ups_at (y : Lt) {l : List Lt} {i : Nat} (h : i < l.length) : ups y l = ups y (l.take i ++ l.drop (i + 1)) + pos (y.un * (l.getD i default).co - y.co * (l.getD i default).un) := by
  have e := congrArg (ups y) (split_at h)
  rw [ups_app] at e
  simp only [ups] at e
  rw [e, ups_app]
  omega
theorem ups_z (y : Lt) : ∀ {l : List Lt}, (∀ x ∈ l, y.un * x.co ≤ y.co * x.un) → ups y l = 0
  | [], _ => rfl
  | x :: r, h => by
    have a := h x (by simp)
    have := ups_z y (l := r) fun z hz => h z (by simp [hz])
    simp only [ups]
    unfold pos
    split <;> omega
theorem most (y : Lt) (hy : 1 ≤ y.un) (hc : 0 ≤ y.co) (kind : Int) : ∀ (n : Nat) (l : List Lt) (m : Int), l.length ≤ n → (∀ x ∈ l, Ok x) → 0 ≤ m → m ≤ un l → y.un * (sell kind n l m).2 ≤ ups y l + y.co * m
  | 0, l, m, hn, ho, h0, hm => by
    obtain rfl : l = [] := List.eq_nil_of_length_eq_zero (by omega)
    have := Int.mul_nonneg hc h0
    simp only [sell, ups]
    omega
  | n + 1, l, m, hn, ho, h0, hm => by
    have ug := ups_ge y l
    have cm := Int.mul_nonneg hc h0
    by_cases z : m ≤ 0
    · rw [sell_end kind _ _ z]
      dsimp only
      omega
    · have ps : 0 < l.length := by
        cases l with
        | nil => simp [un] at hm; omega
        | cons a r => simp
      have hi := pick_lt (kind := kind) ps
      have ox := ho _ (getD_mem (l := l) hi)
      have ua := ups_at y hi
      have pg := pos_ge (y.un * (l.getD (pick kind l) default).co - y.co * (l.getD (pick kind l) default).un)
      by_cases k : (l.getD (pick kind l) default).un ≤ m
      · rw [sell_all (by omega) k]
        have uq := un_at hi
        have ih := most y hy hc kind n (l.take (pick kind l) ++ l.drop (pick kind l + 1)) (m - (l.getD (pick kind l) default).un) (by simp; omega) (fun x hx => ho x (mem_less hx)) (by omega) (by omega)
        dsimp only
        rw [Int.mul_add]
        rw [Int.mul_sub] at ih
        omega
      · rw [sell_part (by omega) k]
        unfold Ok at ox
        have ug2 := ups_ge y (l.take (pick kind l) ++ l.drop (pick kind l + 1))
        generalize l.getD (pick kind l) default = x at *
        dsimp only
        have e := Int.mul_ediv_add_emod (x.co * m) x.un
        have e0 := Int.emod_nonneg (x.co * m) (b := x.un) (by omega)
        unfold part
        generalize x.co * m / x.un = q at *
        generalize x.co * m % x.un = R at *
        -- un * (y.un * q) ≤ y.un * co * m = (y.un * co - y.co * un) * m + y.co * un * m
        have p1 : x.un * (y.un * q) ≤ x.un * (pos (y.un * x.co - y.co * x.un) + y.co * m) := by
          have x1 : x.un * (y.un * q) = y.un * (x.co * m) - y.un * R := by rw [← e]; grind
          have x2 : x.un * (pos (y.un * x.co - y.co * x.un) + y.co * m) = x.un * pos (y.un * x.co - y.co * x.un) + y.co * x.un * m := by grind
          have x3 : (y.un * x.co - y.co * x.un) * m ≤ pos (y.un * x.co - y.co * x.un) * m := Int.mul_le_mul_of_nonneg_right pg.1 h0
          have x4 : pos (y.un * x.co - y.co * x.un) * m ≤ pos (y.un * x.co - y.co * x.un) * x.un := Int.mul_le_mul_of_nonneg_left (by omega) pg.2
          have x5 : (y.un * x.co - y.co * x.un) * m = y.un * (x.co * m) - y.co * x.un * m := by grind
          have x6 : pos (y.un * x.co - y.co * x.un) * x.un = x.un * pos (y.un * x.co - y.co * x.un) := Int.mul_comm _ _
          have x7 : 0 ≤ y.un * R := Int.mul_nonneg (by omega) e0
          omega
        have p2 := Int.le_of_mul_le_mul_left p1 (by omega)
        omega
theorem bst_most {l : List Lt} (ho : ∀ x ∈ l, Ok x) : ∀ k, k ≤ l.length → ∀ j, j < k → (l.getD (bst l k) default).un * (l.getD j default).co ≤ (l.getD (bst l k) default).co * (l.getD j default).un
  | 0, _, j, hj => by omega
  | k + 1, hk, j, hj => by
    have ok : ∀ i, i < l.length → 1 ≤ (l.getD i default).un := fun i hi => (ho _ (getD_mem hi)).2.1.1
    have ih := bst_most ho k (by omega)
    have bi := bst_in l (k := k) (by omega) (by omega)
    have hu := ok _ bi
    have hku := ok k (by omega)
    simp only [bst]
    split
    · rename_i c
      by_cases e : j = k
      · subst e; rw [Int.mul_comm]; exact Int.le_refl _
      · have i1 := ih j (by omega)
        have hju := ok j (by omega)
        -- b: bst; k: new; j: any
        generalize l.getD (bst l k) default = B at *
        generalize l.getD k default = N at *
        generalize l.getD j default = J at *
        have y1 : B.un * J.co * N.un ≤ B.co * J.un * N.un := Int.mul_le_mul_of_nonneg_right i1 (by omega)
        have y2 : B.co * N.un * J.un ≤ N.co * B.un * J.un := Int.mul_le_mul_of_nonneg_right (by omega) (by omega)
        have y3 : B.un * (N.un * J.co) ≤ B.un * (N.co * J.un) := by
          have z1 : B.un * (N.un * J.co) = B.un * J.co * N.un := by grind
          have z2 : B.un * (N.co * J.un) = N.co * B.un * J.un := by grind
          have z3 : B.co * J.un * N.un = B.co * N.un * J.un := by grind
          omega
        exact Int.le_of_mul_le_mul_left y3 (by omega)
    · rename_i c
      by_cases e : j = k
      · subst e
        generalize l.getD (bst l j) default = B at *
        generalize l.getD j default = J at *
        have z1 : J.co * B.un = B.un * J.co := Int.mul_comm _ _
        omega
      · exact ih j (by omega)
theorem greedy : ∀ (n : Nat) (l : List Lt) (m : Int), l.length ≤ n → (∀ x ∈ l, Ok x) → 0 < m → m ≤ un l → ∃ y ∈ l, ups y l + y.co * m < y.un * (sell 3 n l m).2 + y.un
  | 0, l, m, hn, ho, h0, hm => by
    obtain rfl : l = [] := List.eq_nil_of_length_eq_zero (by omega)
    simp [un] at hm
    omega
  | n + 1, l, m, hn, ho, h0, hm => by
    have ps : 0 < l.length := by
      cases l with
      | nil => simp [un] at hm; omega
      | cons a r => simp
    have hi := pick_lt (kind := 3) ps
    have bm : ∀ x ∈ l, (l.getD (pick 3 l) default).un * x.co ≤ (l.getD (pick 3 l) default).co * x.un := fun x hx => by
      obtain ⟨j, hj, rfl⟩ := List.getElem_of_mem hx
      have := bst_most ho l.length (Nat.le_refl _) j hj
      rw [getD_at hj] at this
      exact this
    have ox := ho _ (getD_mem (l := l) hi)
    have xm : l.getD (pick 3 l) default ∈ l := getD_mem (l := l) hi
    have uz := ups_z (l.getD (pick 3 l) default) bm
    have uq := un_at hi
    have ua := fun y => ups_at y hi
    unfold Ok at ox
    by_cases k : (l.getD (pick 3 l) default).un ≤ m
    · rw [sell_all (by omega) k]
      dsimp only
      by_cases z : m - (l.getD (pick 3 l) default).un ≤ 0
      · rw [sell_end 3 _ _ z]
        refine ⟨_, xm, ?_⟩
        dsimp only
        rw [uz]
        have : m = (l.getD (pick 3 l) default).un := by omega
        rw [this, Int.add_zero]
        have := Int.mul_comm (l.getD (pick 3 l) default).un (l.getD (pick 3 l) default).co
        omega
      · obtain ⟨y, hy, h⟩ := greedy n (l.take (pick 3 l) ++ l.drop (pick 3 l + 1)) (m - (l.getD (pick 3 l) default).un) (by simp; omega) (fun x hx => ho x (mem_less hx)) (by omega) (by omega)
        refine ⟨y, mem_less hy, ?_⟩
        have b1 := bm y (mem_less hy)
        rw [ua y]
        rw [Int.mul_sub] at h
        rw [Int.mul_add]
        generalize l.getD (pick 3 l) default = x at *
        have p : pos (y.un * x.co - y.co * x.un) = y.un * x.co - y.co * x.un := if_pos (by
          have c1 := Int.mul_comm x.un y.co
          have c2 := Int.mul_comm x.co y.un
          omega)
        omega
    · rw [sell_part (by omega) k]
      refine ⟨_, xm, ?_⟩
      dsimp only
      rw [uz]
      generalize l.getD (pick 3 l) default = x at *
      have e := Int.mul_ediv_add_emod (x.co * m) x.un
      have e1 := Int.emod_lt_of_pos (x.co * m) (b := x.un) (by omega)
      unfold part
      omega
/-- by the dearest no less cost goes than by another way -/
theorem dear {l : List Lt} {m : Int} (k : Int) (h : slE l m 3 = 0) (hk : 1 ≤ k ∧ k ≤ 3) : slC l m k ≤ slC l m 3 := by
  obtain ⟨h0, _, hm, hu⟩ := slE_ok h
  have ok := chk_ok h0
  have hk0 : slE l m k = 0 := (slE_kind k 3 hk (by omega)).trans h
  rw [(sl_yes h).2, (sl_yes hk0).2]
  obtain ⟨y, hy, g⟩ := greedy l.length l m (Nat.le_refl _) ok.2.1 (by omega) hu
  have oy := ok.2.1 y hy
  unfold Ok at oy
  have ms := most y (by omega) (by omega) k l.length l m (Nat.le_refl _) ok.2.1 (by omega) hu
  have : y.un * (sell k l.length l m).2 < y.un * ((sell 3 l.length l m).2 + 1) := by rw [Int.mul_add]; omega
  have := Int.lt_of_mul_lt_mul_left this (by omega)
  omega
theorem has_bd (l : List Lt) : 0 ≤ hN l ∧ hN l ≤ 42949672960 ∧ 0 ≤ hC l ∧ hC l ≤ 171798691840 := by
  unfold hN hC
  by_cases h : chk l = 0
  · have ok := chk_ok h
    have := sums_bd ok.2.1
    have := ok.1
    rw [if_pos h, if_pos h]
    omega
  · rw [if_neg h, if_neg h]
    omega
theorem slL_bd (l : List Lt) (m k : Int) (h : l.length ≤ 9223372036854775807 := by simp) : (slL l m k).length ≤ 9223372036854775807 := by
  by_cases e : slE l m k = 0
  · have := (keep e).2.2.2.2; omega
  · rw [(sl_no e).1]; simp
end L
end Go.Proofs.Yticbaaigcmmggaa

/- How a struct api.Lot, and a list of such, are read off an argument. -/
namespace Go.Proofs.Yticbaaigcmmggaa
open Go Go.RowKit Go.ChangeShapes Go.WideShapes Go.Deep V
set_option linter.unusedVariables false
set_option maxRecDepth 100000
noncomputable def ltFields : Array Field := (match Try.prog.underlying 24 with | some (.struct fs) => fs | _ => #[])
theorem ltStruct : Try.prog.underlying 24 = some (.struct ltFields) := by kernel_rfl
theorem ltOne : oneCellFields Try.prog ltFields = true := by kernel_rfl
theorem ltSize : ltFields.size = 3 := by kernel_rfl
theorem ltCells : Try.prog.cellsOf 24 = 3 := by kernel_rfl
theorem ltInts : (List.range 3).all (fun j => (ltFields[j]?).all (fun f => decide (f.type = 3))) = true := by kernel_rfl
theorem ltInt (j : Nat) (f : Field) (h : ltFields[j]? = some f) : Try.prog.underlying f.type = some (.int .i64) := by
  have hj : j < 3 := by have := (Array.getElem?_eq_some_iff.1 h).1; rw [ltSize] at this; exact this
  have := List.all_eq_true.1 ltInts j (List.mem_range.2 hj)
  rw [h] at this
  have e : f.type = 3 := by simpa using this
  rw [e]
  exact Try.underlying3
def WfLt (d : Lt) : Prop := ∀ n ∈ [d.day, d.un, d.co], (Lit.int .i64 n).wf = true
theorem lt_of {H : Type} {enc : TypeId × Value → H} {w : World} {base : Nat} {spare : Nat → Bool} {held : Bool} {fuel : Nat} {cs : List Value} {x : DataW H × List MemPlace} (h : DataW.trod enc Try.prog w base spare held fuel 24 cs = some x) :
    ∃ f : Lt, cs = encL f ∧ WfLt f := by
  obtain ⟨ns, e, hl, wf⟩ := ints_struct ltStruct ltOne (ltCells.trans ltSize.symm) ltInt h
  rw [ltSize] at hl
  match ns, hl with
  | [a0, a1, a2], _ => exact ⟨⟨a0, a1, a2⟩, by simpa [encL] using e, wf⟩
theorem open_lt {H : Type} {enc : TypeId × Value → H} {W : World} {base : Nat} {spare : Nat → Bool} {held : Bool} {r : Reach} {b0 : Nat} {v : Value} {d : DataW H} {p : List MemPlace} (hv : Value.okWide Try.prog W r b0 24 v) (h : DataW.Trod enc Try.prog W base spare held 24 v d p) :
    ∃ f : Lt, v = .agg #[.int .i64 f.day, .int .i64 f.un, .int .i64 f.co] ∧ WfLt f := by
  obtain ⟨cs, rfl, _⟩ := okWide_struct ltStruct hv
  obtain ⟨fuel, hf⟩ := h
  obtain ⟨f, e, wf⟩ := lt_of hf
  refine ⟨f, ?_, wf⟩
  obtain ⟨l⟩ := cs
  simp only [Value.cells] at e
  subst e
  rfl
theorem open_lts {H : Type} {enc : TypeId × Value → H} {W : World} {base : Nat} {spare : Nat → Bool} {held : Bool} {r : Reach} {b0 : Nat} {v : Value} {d : DataW H} {p : List MemPlace} {t : Nat} (ht : Try.prog.underlying t = some (.slice 24)) (hv : Value.okWide Try.prog W r b0 t v) (h : DataW.Trod enc Try.prog W base spare held t v d p) :
    ∃ l : List Lt, ArrIs W v 3 l.length (ga encL l) ∧ ∀ f ∈ l, WfLt f :=
  open_list ht ltCells (by omega) (fun fuel cs x hx => by
    obtain ⟨f, e, wf⟩ := lt_of hx
    exact ⟨f, e, wf⟩) hv h
end Go.Proofs.Yticbaaigcmmggaa

/- How long a list that is handed in is at most: what is read of it fits into what a machine reaches. -/
namespace Go.Proofs.Yticbaaigcmmggaa
open Go Go.RowKit Go.ChangeShapes Go.WideShapes V
set_option linter.unusedVariables false
section
variable {H : Type} {enc : TypeId × Value → H} {P : Program} {W : World} {base : Nat} {spare : Nat → Bool} {held : Bool}
theorem open_len {t e s n : Nat} {get : Nat → List Value} {r : Reach} {b0 : Nat} {v : Value} {d : DataW H} {p : List MemPlace} (hu : P.underlying t = some (.slice e)) (h : DataW.Trod enc P W base spare held t v d p) (hl : ArrIs W v s n get) :
    n = 0 ∨ ∃ el sp, d = .slice el sp ∧ n ≤ el.length + sp.length := by
  obtain ⟨A, c, rfl, _⟩ := hl
  obtain ⟨fuel, hf⟩ := h
  rcases Go.Deep.open_slice hu hf with ⟨hcs, _⟩ | ⟨a, len', cap', m, k, D, Pl, hcs, _, hl, hm, hmm, hx, hi⟩
  · have e : (Value.slice A n c) = .slice none 0 0 := by simpa [Value.cells] using hcs
    injection e with e1 e2 e3
    exact .inl e2
  · have e : (Value.slice A n c) = .slice (some a) len' cap' := by simpa [Value.cells] using hcs
    injection e with e1 e2 e3
    subst e2
    injection hx with h1 h2
    exact .inr ⟨_, _, h1, by simp⟩
theorem len_sized {ts : List TypeId} {ds : List (DataW H)} (hsz : (DataW.weightsEach P ts ds).all (· ≤ reachBytes) = true) {j t e s n B : Nat} {get : Nat → List Value} {v : Value} {d : DataW H} {p : List MemPlace} (ht : ts[j]? = some t) (hd : ds[j]? = some d)
    (hu : P.underlying t = some (.slice e)) (hB : P.bytesOf e = B) (h : DataW.Trod enc P W base spare held t v d p) (hl : ArrIs W v s n get) : n * B ≤ 140737488351232 := by
  rcases open_len (r := .any) (b0 := 0) hu h hl with rfl | ⟨el, sp, rfl, hn⟩
  · rw [Nat.zero_mul]; omega
  · have q := sized_slice hsz ht hd hu
    rw [hB] at q
    have : n * B ≤ (el.length + sp.length) * B := Nat.mul_le_mul_right _ hn
    simp only [reachBytes] at q
    omega
end
end Go.Proofs.Yticbaaigcmmggaa
