/- What GridRich answers: true. -/
import Derived.Test.YtmbcdkgnlididaaVGridX
import Derived.Test.YtmbcdkgnlididaaGridPl8
import Derived.Test.YtmbcdkgnlididaaVOpenD
namespace Go.Proofs.Ytmbcdkgnlididaa
open Go Go.RowKit V
set_option maxRecDepth 100000
set_option linter.unusedVariables false
set_option linter.unusedSimpArgs false
set_option maxHeartbeats 4000000 in
theorem v_gridRich (l : List Du) (wl : ∀ f ∈ l, WfD f) : V.Fn Try.prog 8 [.arr 3 l.length (ga encD l)] [.one (.ref 0)] (.bool true) := by
  clear wl
  refine V.Fn.lim (by kernel_rfl) fun hl => ?_
  have nl := hl 0 _ _ _ rfl
  clear hl
  have gc := v_gcheck G.none l (by decide) nl
  have ln : G.none.length = 31 := by decide
  refine V.Fn.mk_ V.Tok V.mixed Try.func8 rfl Try.ntmps8 (by kernel_rfl) rfl rfl ?_
  repeat' ((conv => whnf); first | (refine V.NIf.yes ?_ ?_; · (simp only [true_and, and_true, and_self]; done)) | refine V.NCond.mk ?_ | refine V.NIf.not_ ?_ | refine V.NIf.dec_ ?_ | refine V.NIf.no (by omega) ?_ | refine V.NIf.yes (by omega) ?_ | refine V.NIf.mk (fun _ => ?_) (fun _ => ?_) | refine V.NWrap.ok (by omega) (by omega) ?_ | refine V.NWrap.u64 (by omega) (by omega) ?_ | refine V.NLt.mk (by omega) ?_ | refine V.NBoth.mk ?_ ?_ | refine V.NTF.yes (by omega) ?_ | refine V.NTF.no (by omega) ?_ | refine V.NTF.dec ?_ | refine V.NDraw.q (by exact rfl) (by kernel_rfl) ?_ | refine V.NApp.one (by first | omega | (simp; omega)) (by first | omega | (simp; omega)) ?_ | (first | refine V.Fn.k0 (v_gbegun) rfl ?_ | refine V.Fn.q0 (v_gbegun) rfl ?_ | refine V.Fn.a0 (v_gbegun) rfl ?_) | (refine NMake.mk ⟨31, 31, rfl, rfl, by omega, by omega, by first | omega | decide | (simp; done) | (simp; omega), ?_⟩) | ((refine V.Fn.k gc [1, 0] rfl ?_ ?_); · exact ⟨⟨rfl, ln.symm, G.none_ga⟩, ⟨rfl, rfl, fun _ _ => rfl⟩, trivial⟩) | (refine NOne.mk ?_ ?_; · (intro k hk; rfl)) | (refine ⟨⟨31, ga e1 G.none, by simp, by omega, by simp, fun k hk => absurd hk (by omega), fun k hk => by rw [Nat.zero_add]; exact (G.none_ga k hk).symm, ?_⟩⟩) | (refine V.NDraw.any (by kernel_rfl) ?_) | fail)
  all_goals (conv => whnf)
  have hc : G.chk G.none l = 0 := by assumption
  obtain ⟨nc, ns⟩ := G.none_chk hc
  obtain ⟨h60, hck⟩ := N.chk_ok nc
  have am := G.am_pos (G.chk_ok hc)
  refine V.NLoop.auto (fun (k : Nat) => [(6, .one (.val (.int .i64 k))), (4, .one (.ref 3)), (5, .one (.val (.int .i64 (G.sumD (l.take k)))))]) (fun (k : Nat) => [(3, .row 3 1 (G.dues l k).length (ga e1 (G.dues l k)))]) [] [] (fun (k : Nat) => l.length - k) (fun (k : Nat) => k ≤ l.length) 0 (Nat.zero_le _) (by repeat' (first | exact rfl | exact Iff.rfl | exact trivial | exact (fun _ _ => rfl) | exact (fun _ h => absurd h (Nat.not_lt_zero _)) | refine ⟨?_, ?_⟩ | exact Iff.rfl | exact congrArg (fun z => V.SV.one (V.At.val (Value.int .i64 z))) (by omega))) (by (conv => whnf); exact ⟨ObLe.is_ (G.dues_zero l) (G.dues_len l 0).symm, trivial⟩) (fun _ => ⟨rfl, rfl⟩) ?_; (conv => whnf); refine ⟨⟨rfl, rfl⟩, ?_⟩
  rintro k hk
  have dl := G.dues_len l k
  have st := G.sumD_take am k
  by_cases hlt : k < l.length
  · have ck := N.ck_ok (hck _ (getD_mem hlt))
    obtain ⟨q, eq⟩ := Int.eq_ofNat_of_zero_le ck.1.1
    have hq : q < 31 := by omega
    have ed := G.dues_at (l := l) (k := k) hq
    have db := G.due_bd hck hq hk
    have es := G.dues_succ (k := k) hlt eq hq
    have ss := G.sumD_snoc hlt
    repeat' ((conv => whnf); first | refine V.NCond.mk ?_ | refine V.NIf.not_ ?_ | refine V.NIf.dec_ ?_ | refine V.NIf.no (by omega) ?_ | refine V.NIf.yes (by omega) ?_ | refine V.NIf.mk (fun _ => ?_) (fun _ => ?_) | refine V.NWrap.ok (by omega) (by omega) ?_ | refine V.NWrap.u64 (by omega) (by omega) ?_ | refine V.NLt.mk (by omega) ?_ | refine V.NBoth.mk ?_ ?_ | refine V.NTF.yes (by omega) ?_ | refine V.NTF.no (by omega) ?_ | refine V.NTF.dec ?_ | refine V.NDraw.q (by exact rfl) (by kernel_rfl) ?_ | refine V.NApp.one (by first | omega | (simp; omega)) (by first | omega | (simp; omega)) ?_ | (refine NIdx.mk ⟨k, rfl, by omega, ?_⟩) | (refine NIdx.mk ⟨q, by omega, by omega, ?_⟩) | (refine NPut.to _ (by first | rfl | simp) rfl ?_) | (refine V.NWrap.ok (by have := st.2.2 hlt; omega) (by have := st.2.2 hlt; omega) ?_) | (refine V.NDraw.any (by kernel_rfl) ?_) | fail)
    all_goals (conv => whnf)
    refine V.NBack.at_ (k + 1) [] (by omega) (by omega) ⟨(by repeat' (first | exact rfl | exact Iff.rfl | exact trivial | exact (fun _ _ => rfl) | exact (fun _ h => absurd h (Nat.not_lt_zero _)) | refine ⟨?_, ?_⟩ | exact Iff.rfl | exact congrArg (fun z => V.SV.one (V.At.val (Value.int .i64 z))) (by omega))), (by repeat' (first | exact rfl | exact Iff.rfl | exact trivial | exact (fun _ _ => rfl) | exact (fun _ h => absurd h (Nat.not_lt_zero _)) | refine ⟨?_, ?_⟩ | exact Iff.rfl | exact congrArg (fun z => V.SV.one (V.At.val (Value.int .i64 z))) (by omega))), ?_, trivial⟩ rfl ⟨ObLe.is_ es (by rw [G.dues_len, G.dues_len]), trivial⟩ (by repeat' (first | exact rfl | exact Iff.rfl | exact trivial | exact (fun _ _ => rfl) | exact (fun _ h => absurd h (Nat.not_lt_zero _)) | refine ⟨?_, ?_⟩ | exact Iff.rfl | exact congrArg (fun z => V.SV.one (V.At.val (Value.int .i64 z))) (by omega))) (by repeat' (first | exact rfl | exact Iff.rfl | exact trivial | exact (fun _ _ => rfl) | exact (fun _ h => absurd h (Nat.not_lt_zero _)) | refine ⟨?_, ?_⟩ | exact Iff.rfl | exact congrArg (fun z => V.SV.one (V.At.val (Value.int .i64 z))) (by omega)))
    exact congrArg (fun z => V.SV.one (V.At.val (Value.int .i64 z))) ss.symm
  obtain rfl : k = l.length := by omega
  rw [List.take_length] at *
  by_cases hbig : 576460752303423488 < G.sumD l
  · repeat' ((conv => whnf); first | refine V.NCond.mk ?_ | refine V.NIf.not_ ?_ | refine V.NIf.dec_ ?_ | refine V.NIf.no (by omega) ?_ | refine V.NIf.yes (by omega) ?_ | refine V.NIf.mk (fun _ => ?_) (fun _ => ?_) | refine V.NWrap.ok (by omega) (by omega) ?_ | refine V.NWrap.u64 (by omega) (by omega) ?_ | refine V.NLt.mk (by omega) ?_ | refine V.NBoth.mk ?_ ?_ | refine V.NTF.yes (by omega) ?_ | refine V.NTF.no (by omega) ?_ | refine V.NTF.dec ?_ | refine V.NDraw.q (by exact rfl) (by kernel_rfl) ?_ | refine V.NApp.one (by first | omega | (simp; omega)) (by first | omega | (simp; omega)) ?_ | (refine V.NDraw.any (by kernel_rfl) ?_) | fail)
    all_goals (conv => whnf)
  have es := G.dues_sum hck (Nat.le_refl l.length)
  rw [List.take_length] at es
  have dp : ∀ x ∈ G.dues l l.length, 0 ≤ x := fun x hx => by
    obtain ⟨q, hq, rfl⟩ := List.getElem_of_mem hx
    rw [← getD_at hq, G.dues_at (by rw [G.dues_len] at hq; exact hq)]; exact G.due_pos am q _
  have hc2 : G.chk (G.dues l l.length) l = 0 := G.chk_of dl (fun n hn => ⟨dp n hn, by have := G.mem_sum dp n hn; omega⟩) nc (by omega)
  have ok2 := G.chk_ok hc2
  have hsl := G.sol_yes hc2 (G.rich_adm am)
  obtain ⟨a1, a2⟩ := G.after_sol hc2
  have gs := v_gsolve_ (G.dues l l.length) l (by omega) (by omega)
  have gaf := v_gafter_ (G.dues l l.length) l (G.sol (G.dues l l.length) l) (by omega) (by omega) (by omega)
  rw [hc2] at gs
  rw [a1, a2] at gaf
  have al := G.aft_len (G.dues l l.length) l (G.best (G.dues l l.length) l)
  have hsum := G.aft_sum (b := G.best (G.dues l l.length) l) ok2
  have pos := G.adm_all (G.great ok2).adm
  have t1 := v_together (G.aft (G.dues l l.length) l (G.best (G.dues l l.length) l)) (by omega) fun k => by
    have := G.sum_take pos k
    omega
  have t2 := v_together (G.dues l l.length) (by omega) fun k => by
    have := G.sum_take dp k
    omega
  generalize G.aft (G.dues l l.length) l (G.best (G.dues l l.length) l) = A at *
  generalize G.sol (G.dues l l.length) l = d at *
  repeat' ((conv => whnf); first | (refine V.NIf.yes ?_ ?_; · (simp only [true_and, and_true, and_self]; done)) | refine V.NCond.mk ?_ | refine V.NIf.not_ ?_ | refine V.NIf.dec_ ?_ | refine V.NIf.no (by omega) ?_ | refine V.NIf.yes (by omega) ?_ | refine V.NIf.mk (fun _ => ?_) (fun _ => ?_) | refine V.NWrap.ok (by omega) (by omega) ?_ | refine V.NWrap.u64 (by omega) (by omega) ?_ | refine V.NLt.mk (by omega) ?_ | refine V.NBoth.mk ?_ ?_ | refine V.NTF.yes (by omega) ?_ | refine V.NTF.no (by omega) ?_ | refine V.NTF.dec ?_ | refine V.NDraw.q (by exact rfl) (by kernel_rfl) ?_ | refine V.NApp.one (by first | omega | (simp; omega)) (by first | omega | (simp; omega)) ?_ | ((first | refine V.FnR.k_ (gs) [3, 0] rfl ?_ ?_ | refine V.FnR.a_ (gs) [3, 0] rfl ?_ ?_); · ((repeat' (first | exact rfl | exact Iff.rfl | exact trivial | exact (fun _ _ => rfl) | exact (fun _ h => absurd h (Nat.not_lt_zero _)) | refine ⟨?_, ?_⟩ | exact Iff.rfl | exact congrArg (fun z => V.SV.one (V.At.val (Value.int .i64 z))) (by omega))); done)) | ((first | refine V.FnR.k_ (gaf) [3, 0, 4] rfl ?_ ?_ | refine V.FnR.a_ (gaf) [3, 0, 4] rfl ?_ ?_); · ((repeat' (first | exact rfl | exact Iff.rfl | exact trivial | exact (fun _ _ => rfl) | exact (fun _ h => absurd h (Nat.not_lt_zero _)) | refine ⟨?_, ?_⟩ | exact Iff.rfl | exact congrArg (fun z => V.SV.one (V.At.val (Value.int .i64 z))) (by omega))); done)) | (refine V.NDraw.any (by kernel_rfl) ?_) | fail)
  all_goals (conv => whnf)
  refine V.NLoop.auto (fun (k : Nat) => [(12, .one (.val (.int .i64 k))), (11, .one (.ref 6))]) (fun (k : Nat) => [(6, .row 38 3 (G.from0 l k).length (ga encD (G.from0 l k)))]) [] [] (fun (k : Nat) => l.length - k) (fun (k : Nat) => k ≤ l.length) 0 (Nat.zero_le _) (by repeat' (first | exact rfl | exact Iff.rfl | exact trivial | exact (fun _ _ => rfl) | exact (fun _ h => absurd h (Nat.not_lt_zero _)) | refine ⟨?_, ?_⟩ | exact Iff.rfl | exact congrArg (fun z => V.SV.one (V.At.val (Value.int .i64 z))) (by omega))) (by repeat' (first | exact rfl | exact Iff.rfl | exact trivial | exact (fun _ _ => rfl) | exact (fun _ h => absurd h (Nat.not_lt_zero _)) | refine ⟨?_, ?_⟩ | exact Iff.rfl | exact congrArg (fun z => V.SV.one (V.At.val (Value.int .i64 z))) (by omega))) (fun _ => ⟨rfl, rfl⟩) ?_; (conv => whnf); refine ⟨⟨rfl, rfl⟩, ?_⟩
  rintro k hk
  have e0 := G.from0_succ (l := l) (k := k)
  have fl : (G.from0 l k).length ≤ k := by
    have h1 := List.length_filter_le (fun d : Du => decide (d.fr = 0)) (l.take k)
    have h2 := List.length_take_le k l
    unfold G.from0; omega
  by_cases hlt : k < l.length
  · repeat' ((conv => whnf); first | refine V.NCond.mk ?_ | refine V.NIf.not_ ?_ | refine V.NIf.dec_ ?_ | refine V.NIf.no (by omega) ?_ | refine V.NIf.yes (by omega) ?_ | refine V.NIf.mk (fun _ => ?_) (fun _ => ?_) | refine V.NWrap.ok (by omega) (by omega) ?_ | refine V.NWrap.u64 (by omega) (by omega) ?_ | refine V.NLt.mk (by omega) ?_ | refine V.NBoth.mk ?_ ?_ | refine V.NTF.yes (by omega) ?_ | refine V.NTF.no (by omega) ?_ | refine V.NTF.dec ?_ | refine V.NDraw.q (by exact rfl) (by kernel_rfl) ?_ | refine V.NApp.one (by first | omega | (simp; omega)) (by first | omega | (simp; omega)) ?_ | (refine NIdx.mk ⟨k, rfl, by omega, ?_⟩) | (refine V.NDraw.any (by kernel_rfl) ?_) | fail)
    all_goals (conv => whnf)
    · exact V.NBack.at_ (k + 1) [(6, 8)] (by omega) (by omega) (by repeat' (first | exact rfl | exact Iff.rfl | exact trivial | exact (fun _ _ => rfl) | exact (fun _ h => absurd h (Nat.not_lt_zero _)) | refine ⟨?_, ?_⟩ | exact Iff.rfl | exact congrArg (fun z => V.SV.one (V.At.val (Value.int .i64 z))) (by omega))) rfl ⟨ObLe.as_ ((e0 hlt).trans (if_pos (by assumption))), trivial⟩ (by repeat' (first | exact rfl | exact Iff.rfl | exact trivial | exact (fun _ _ => rfl) | exact (fun _ h => absurd h (Nat.not_lt_zero _)) | refine ⟨?_, ?_⟩ | exact Iff.rfl | exact congrArg (fun z => V.SV.one (V.At.val (Value.int .i64 z))) (by omega))) (by repeat' (first | exact rfl | exact Iff.rfl | exact trivial | exact (fun _ _ => rfl) | exact (fun _ h => absurd h (Nat.not_lt_zero _)) | refine ⟨?_, ?_⟩ | exact Iff.rfl | exact congrArg (fun z => V.SV.one (V.At.val (Value.int .i64 z))) (by omega)))
    · exact V.NBack.at_ (k + 1) [] (by omega) (by omega) (by repeat' (first | exact rfl | exact Iff.rfl | exact trivial | exact (fun _ _ => rfl) | exact (fun _ h => absurd h (Nat.not_lt_zero _)) | refine ⟨?_, ?_⟩ | exact Iff.rfl | exact congrArg (fun z => V.SV.one (V.At.val (Value.int .i64 z))) (by omega))) rfl ⟨ObLe.as_ ((e0 hlt).trans (if_neg (by assumption))), trivial⟩ (by repeat' (first | exact rfl | exact Iff.rfl | exact trivial | exact (fun _ _ => rfl) | exact (fun _ h => absurd h (Nat.not_lt_zero _)) | refine ⟨?_, ?_⟩ | exact Iff.rfl | exact congrArg (fun z => V.SV.one (V.At.val (Value.int .i64 z))) (by omega))) (by repeat' (first | exact rfl | exact Iff.rfl | exact trivial | exact (fun _ _ => rfl) | exact (fun _ h => absurd h (Nat.not_lt_zero _)) | refine ⟨?_, ?_⟩ | exact Iff.rfl | exact congrArg (fun z => V.SV.one (V.At.val (Value.int .i64 z))) (by omega)))
  obtain rfl : k = l.length := by omega
  have hc3 : G.chk G.none (G.from0 l l.length) = 0 := by
    unfold G.from0; rw [List.take_length]; exact G.filter_chk hc
  have hn := G.none_nil (p := 0) hc3 (by omega) fun d hd => by
    unfold G.from0 at hd
    exact of_decide_eq_true (List.mem_filter.1 hd).2
  have g3 := v_gsolve_ G.none (G.from0 l l.length) (by omega) (by omega)
  rw [hc3, hn] at g3
  repeat' ((conv => whnf); first | (refine V.NIf.yes ?_ ?_; · (simp only [true_and, and_true, and_self]; done)) | refine V.NCond.mk ?_ | refine V.NIf.not_ ?_ | refine V.NIf.dec_ ?_ | refine V.NIf.no (by omega) ?_ | refine V.NIf.yes (by omega) ?_ | refine V.NIf.mk (fun _ => ?_) (fun _ => ?_) | refine V.NWrap.ok (by omega) (by omega) ?_ | refine V.NWrap.u64 (by omega) (by omega) ?_ | refine V.NLt.mk (by omega) ?_ | refine V.NBoth.mk ?_ ?_ | refine V.NTF.yes (by omega) ?_ | refine V.NTF.no (by omega) ?_ | refine V.NTF.dec ?_ | refine V.NDraw.q (by exact rfl) (by kernel_rfl) ?_ | refine V.NApp.one (by first | omega | (simp; omega)) (by first | omega | (simp; omega)) ?_ | ((refine V.FnR.k_ g3 [1, 6] rfl ?_ ?_); · exact ⟨⟨rfl, ln.symm, G.none_ga⟩, ⟨rfl, rfl, fun _ _ => rfl⟩, trivial⟩) | ((first | refine V.Fn.k (t1) [5] rfl ?_ ?_ | refine V.Fn.q (t1) [5] rfl ?_ ?_ | refine V.Fn.a (t1) [5] rfl ?_ ?_); · ((repeat' (first | exact rfl | exact Iff.rfl | exact trivial | exact (fun _ _ => rfl) | exact (fun _ h => absurd h (Nat.not_lt_zero _)) | refine ⟨?_, ?_⟩ | exact Iff.rfl | exact congrArg (fun z => V.SV.one (V.At.val (Value.int .i64 z))) (by omega))); done)) | ((first | refine V.Fn.k (t2) [3] rfl ?_ ?_ | refine V.Fn.q (t2) [3] rfl ?_ ?_ | refine V.Fn.a (t2) [3] rfl ?_ ?_); · ((repeat' (first | exact rfl | exact Iff.rfl | exact trivial | exact (fun _ _ => rfl) | exact (fun _ h => absurd h (Nat.not_lt_zero _)) | refine ⟨?_, ?_⟩ | exact Iff.rfl | exact congrArg (fun z => V.SV.one (V.At.val (Value.int .i64 z))) (by omega))); done)) | (refine V.NDraw.any (by kernel_rfl) ?_) | fail)
  all_goals (conv => whnf)
  · exact ⟨true, rfl, iff_of_true hsum rfl⟩
  · exact absurd rfl (by assumption)
end Go.Proofs.Ytmbcdkgnlididaa
