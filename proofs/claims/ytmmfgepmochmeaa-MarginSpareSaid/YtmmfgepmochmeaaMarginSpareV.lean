/- What MarginSpare answers: true. -/
import Derived.Test.YtmmfgepmochmeaaVMarginB
import Derived.Test.YtmmfgepmochmeaaVOpenS
import Derived.Test.YtmmfgepmochmeaaVOpenI
namespace Go.Proofs.Ytmmfgepmochmeaa
open Go Go.RowKit V
set_option maxRecDepth 100000
set_option linter.unusedVariables false
set_option linter.unusedSimpArgs false
namespace K
/-- what is left of the first k when n of one are taken back -/
def rest (l : List St) (a : Nat) (n : Int) (k : Nat) : List St := ((List.range k).map fun i => (⟨(l.getD i default).pa, (l.getD i default).un - (if i = a then n else 0), (l.getD i default).ct⟩ : St)).filter fun s => decide (0 < s.un)
theorem rest_succ (l : List St) (a : Nat) (n : Int) (k : Nat) : rest l a n (k + 1) = if 0 < (l.getD k default).un - (if k = a then n else 0) then rest l a n k ++ [⟨(l.getD k default).pa, (l.getD k default).un - (if k = a then n else 0), (l.getD k default).ct⟩] else rest l a n k := by
  unfold rest
  rw [List.range_succ, List.map_append, List.filter_append, List.map_singleton]
  by_cases q : 0 < (l.getD k default).un - (if k = a then n else 0)
  · rw [if_pos q, List.filter_cons, if_pos (decide_eq_true q)]; rfl
  · rw [if_neg q, List.filter_cons, if_neg (fun z => q (of_decide_eq_true z))]; simp
theorem rest_len (l : List St) (a : Nat) (n : Int) (k : Nat) : (rest l a n k).length ≤ k := by
  unfold rest
  refine Nat.le_trans (List.length_filter_le _ _) ?_
  simp
theorem rest_val {l : List St} {ps : List Int} (h : P.chks ps = 0) (hs : ∀ s ∈ l, Ok s) {a : Nat} {n : Int} (hn : 0 ≤ n ∧ n ≤ (l.getD a default).un) : ∀ {k : Nat}, k ≤ l.length → (∀ s ∈ rest l a n k, Ok s) ∧ val ps (rest l a n k) = val ps (l.take k) - (if a < k then cnt ps (l.getD a default) (l.getD a default).un - cnt ps (l.getD a default) ((l.getD a default).un - n) else 0)
  | 0, _ => ⟨by simp [rest], by simp [rest, val, cts, M.sum]⟩
  | k + 1, hk => by
    obtain ⟨i1, i2⟩ := rest_val h hs hn (k := k) (by omega)
    have ok := hs _ (getD_mem (l := l) (k := k) (by omega))
    have es := val_snoc (ps := ps) (l := l) (k := k) (by omega)
    have hu := ok.2.1
    rw [rest_succ]
    have one : ∀ x : Int, val ps (rest l a n k ++ [⟨(l.getD k default).pa, x, (l.getD k default).ct⟩]) = val ps (rest l a n k) + cnt ps (l.getD k default) x := fun x => by
      rw [val_app]; simp [val, cts, M.sum, cnt]
    by_cases e : k = a
    · subst e
      rw [if_pos rfl]
      by_cases q : 0 < (l.getD k default).un - n
      · rw [if_pos q]
        refine ⟨fun s hs' => ?_, ?_⟩
        · rcases List.mem_append.1 hs' with h | h
          · exact i1 s h
          · rw [List.mem_singleton.1 h]; exact ⟨ok.1, ⟨by dsimp only; omega, by dsimp only; omega⟩, ok.2.2⟩
        · rw [one, i2, es, if_neg (Nat.lt_irrefl k), if_pos (Nat.lt_succ_self k)]; omega
      · rw [if_neg q]
        have z : (l.getD k default).un - n = 0 := by omega
        refine ⟨i1, ?_⟩
        rw [i2, es, if_neg (Nat.lt_irrefl k), if_pos (Nat.lt_succ_self k), z, cnt_zero]; omega
    · rw [if_neg e, if_pos (by omega)]
      refine ⟨fun s hs' => ?_, ?_⟩
      · rcases List.mem_append.1 hs' with h | h
        · exact i1 s h
        · rw [List.mem_singleton.1 h]; exact ⟨ok.1, ⟨by dsimp only; omega, by dsimp only; omega⟩, ok.2.2⟩
      · rw [one, i2, es, Int.sub_zero]; (repeat' split) <;> omega
end K
set_option maxHeartbeats 4000000 in
theorem v_marginSpare (l : List St) (wl : ∀ f ∈ l, WfS f) (ps : List Int) (wp : ∀ f ∈ ps, (Lit.int .i64 f).wf = true) (need : Int) (w_need : (Lit.int .i64 need).wf = true) (at_ : Int) (w_at_ : (Lit.int .i64 at_).wf = true) : V.Fn Try.prog 4 [.arr 3 l.length (ga encS l), .arr 1 ps.length (ga e1 ps)] [.one (.ref 0), .one (.ref 1), .one (.val (.int .i64 need)), .one (.val (.int .i64 at_))] (.bool true) := by
  clear wl wp
  refine V.Fn.lim (by kernel_rfl) fun hl => ?_
  have nl := hl 0 _ _ _ rfl
  have np := hl 1 _ _ _ rfl
  clear hl
  have z1 : ¬ K.spE l ps need at_ = 0 → K.spV l ps need at_ = 0 := K.sp_no
  refine V.Fn.mk_ V.Tok V.mixed Try.func4 rfl Try.ntmps4 (by kernel_rfl) rfl rfl ?_
  repeat' ((conv => whnf); first | (refine V.NIf.yes ?_ ?_; · (simp only [true_and, and_true, and_self]; done)) | refine V.NCond.mk ?_ | refine V.NIf.not_ ?_ | refine V.NIf.dec_ ?_ | refine V.NIf.no (by omega) ?_ | refine V.NIf.yes (by omega) ?_ | refine V.NIf.mk (fun _ => ?_) (fun _ => ?_) | refine V.NWrap.ok (by omega) (by omega) ?_ | refine V.NWrap.u64 (by omega) (by omega) ?_ | refine V.NLt.mk (by omega) ?_ | refine V.NBoth.mk ?_ ?_ | refine V.NTF.yes (by omega) ?_ | refine V.NTF.no (by omega) ?_ | refine V.NTF.dec ?_ | refine V.NDraw.q (by exact rfl) (by kernel_rfl) ?_ | refine V.NApp.one (by first | omega | (simp; omega)) (by first | omega | (simp; omega)) ?_ | ((first | refine V.Fn.k (v_mgSpare l ps need at_ nl np) [0, 1] rfl ?_ ?_ | refine V.Fn.q (v_mgSpare l ps need at_ nl np) [0, 1] rfl ?_ ?_ | refine V.Fn.a (v_mgSpare l ps need at_ nl np) [0, 1] rfl ?_ ?_); · ((repeat' (first | exact rfl | exact Iff.rfl | exact trivial | exact (fun _ _ => rfl) | exact (fun _ h => absurd h (Nat.not_lt_zero _)) | refine ⟨?_, ?_⟩ | exact Iff.rfl | exact congrArg (fun z => V.SV.one (V.At.val (Value.int .i64 z))) (by omega))); done)) | (first | refine V.Fn.k0 (v_mgbegun) rfl ?_ | refine V.Fn.q0 (v_mgbegun) rfl ?_ | refine V.Fn.a0 (v_mgbegun) rfl ?_) | (refine V.NDraw.any (by kernel_rfl) ?_) | fail)
  all_goals (conv => whnf)
  rotate_left
  · exact ⟨true, rfl, iff_of_true (z1 (by assumption)) rfl⟩
  have hE : K.spE l ps need at_ = 0 := by assumption
  obtain ⟨c1, c2, c3, c4, c5⟩ := K.sp_ok hE
  have st := K.stay_ex hE
  obtain ⟨d1, d2⟩ := K.ck_ok c1
  obtain ⟨d3, d4⟩ := K.chk_ok d1
  have hV : K.spV l ps need at_ = (l.getD at_.toNat default).un - K.stay ps (l.getD at_.toNat default) (K.oth ps l at_.toNat) need := if_pos hE
  have ho : K.oth ps l at_.toNat = K.val ps l - K.cnt ps (l.getD at_.toNat default) (l.getD at_.toNat default).un := rfl
  have sb := st.b
  have sy := st.y
  have hs := d4 _ (getD_mem (l := l) (k := at_.toNat) (by omega))
  have hm := K.cnt_mono d2 hs (show K.stay ps (l.getD at_.toNat default) (K.oth ps l at_.toNat) need ≤ (l.getD at_.toNat default).un by omega)
  have hr := K.rest_val d2 d4 (a := at_.toNat) (n := K.spV l ps need at_) (by omega) (Nat.le_refl l.length)
  rw [List.take_length, if_pos (by omega), hV, show (l.getD at_.toNat default).un - ((l.getD at_.toNat default).un - K.stay ps (l.getD at_.toNat default) (K.oth ps l at_.toNat) need) = K.stay ps (l.getD at_.toNat default) (K.oth ps l at_.toNat) need by omega, ← hV] at hr
  have rl := K.rest_len l at_.toNat (K.spV l ps need at_)
  have v1 := K.v_3 (l := l) (ps := ps) c1 (by omega)
  have v2 := K.v_3 (l := K.rest l at_.toNat (K.spV l ps need at_) l.length) (ps := ps) (K.ck_of (K.chk_of (by have := rl l.length; omega) hr.1) d2) (by omega)
  refine V.NLoop.auto (fun (k : Nat) => [(12, .one (.val (.int .i64 k))), (11, .one (.ref 2))]) (fun (k : Nat) => [(2, .row 37 3 (K.rest l at_.toNat (K.spV l ps need at_) k).length (ga encS (K.rest l at_.toNat (K.spV l ps need at_) k)))]) [] [] (fun (k : Nat) => l.length - k) (fun (k : Nat) => k ≤ l.length) 0 (Nat.zero_le _) (by repeat' (first | exact rfl | exact Iff.rfl | exact trivial | exact (fun _ _ => rfl) | exact (fun _ h => absurd h (Nat.not_lt_zero _)) | refine ⟨?_, ?_⟩ | exact Iff.rfl | exact congrArg (fun z => V.SV.one (V.At.val (Value.int .i64 z))) (by omega))) (by repeat' (first | exact rfl | exact Iff.rfl | exact trivial | exact (fun _ _ => rfl) | exact (fun _ h => absurd h (Nat.not_lt_zero _)) | refine ⟨?_, ?_⟩ | exact Iff.rfl | exact congrArg (fun z => V.SV.one (V.At.val (Value.int .i64 z))) (by omega))) (fun _ => ⟨rfl, rfl⟩) ?_; (conv => whnf); refine ⟨⟨rfl, rfl⟩, ?_⟩
  rintro k hk
  have rk := rl k
  by_cases hlt : k < l.length
  · have es := K.rest_succ l at_.toNat (K.spV l ps need at_) k
    have hsk := d4 _ (getD_mem hlt)
    have hu := hsk.2.1
    have hq : (k : Int) = at_ → k = at_.toNat ∧ (l.getD k default).un = (l.getD at_.toNat default).un := fun h => by rw [← h]; exact ⟨rfl, rfl⟩
    repeat' ((conv => whnf); first | refine V.NCond.mk ?_ | refine V.NIf.not_ ?_ | refine V.NIf.dec_ ?_ | refine V.NIf.no (by omega) ?_ | refine V.NIf.yes (by omega) ?_ | refine V.NIf.mk (fun _ => ?_) (fun _ => ?_) | refine V.NWrap.ok (by omega) (by omega) ?_ | refine V.NWrap.u64 (by omega) (by omega) ?_ | refine V.NLt.mk (by omega) ?_ | refine V.NBoth.mk ?_ ?_ | refine V.NTF.yes (by omega) ?_ | refine V.NTF.no (by omega) ?_ | refine V.NTF.dec ?_ | refine V.NDraw.q (by exact rfl) (by kernel_rfl) ?_ | refine V.NApp.one (by first | omega | (simp; omega)) (by first | omega | (simp; omega)) ?_ | (refine NIdx.mk ⟨k, rfl, by omega, ?_⟩) | (refine V.NWrap.ok (by have := hq (by assumption); omega) (by have := hq (by assumption); omega) ?_) | (refine NApp.one (en := encS) (l := K.rest l at_.toNat (K.spV l ps need at_) k) (x := ⟨(l.getD k default).pa, (l.getD k default).un - K.spV l ps need at_, (l.getD k default).ct⟩) (by first | omega | (simp; omega)) (by first | omega | (simp; omega)) ?_) | (refine V.NDraw.any (by kernel_rfl) ?_) | fail)
    all_goals (conv => whnf)
    · rw [if_pos (hq (by assumption)).1, if_pos (by assumption)] at es
      exact V.NBack.at_ (k + 1) [(2, 5)] (by omega) (by omega) (by repeat' (first | exact rfl | exact Iff.rfl | exact trivial | exact (fun _ _ => rfl) | exact (fun _ h => absurd h (Nat.not_lt_zero _)) | refine ⟨?_, ?_⟩ | exact Iff.rfl | exact congrArg (fun z => V.SV.one (V.At.val (Value.int .i64 z))) (by omega))) rfl ⟨ObLe.as_ es, trivial⟩ (by repeat' (first | exact rfl | exact Iff.rfl | exact trivial | exact (fun _ _ => rfl) | exact (fun _ h => absurd h (Nat.not_lt_zero _)) | refine ⟨?_, ?_⟩ | exact Iff.rfl | exact congrArg (fun z => V.SV.one (V.At.val (Value.int .i64 z))) (by omega))) (by repeat' (first | exact rfl | exact Iff.rfl | exact trivial | exact (fun _ _ => rfl) | exact (fun _ h => absurd h (Nat.not_lt_zero _)) | refine ⟨?_, ?_⟩ | exact Iff.rfl | exact congrArg (fun z => V.SV.one (V.At.val (Value.int .i64 z))) (by omega)))
    · rw [if_pos (hq (by assumption)).1, if_neg (by assumption)] at es
      exact V.NBack.at_ (k + 1) [] (by omega) (by omega) (by repeat' (first | exact rfl | exact Iff.rfl | exact trivial | exact (fun _ _ => rfl) | exact (fun _ h => absurd h (Nat.not_lt_zero _)) | refine ⟨?_, ?_⟩ | exact Iff.rfl | exact congrArg (fun z => V.SV.one (V.At.val (Value.int .i64 z))) (by omega))) rfl ⟨ObLe.as_ es, trivial⟩ (by repeat' (first | exact rfl | exact Iff.rfl | exact trivial | exact (fun _ _ => rfl) | exact (fun _ h => absurd h (Nat.not_lt_zero _)) | refine ⟨?_, ?_⟩ | exact Iff.rfl | exact congrArg (fun z => V.SV.one (V.At.val (Value.int .i64 z))) (by omega))) (by repeat' (first | exact rfl | exact Iff.rfl | exact trivial | exact (fun _ _ => rfl) | exact (fun _ h => absurd h (Nat.not_lt_zero _)) | refine ⟨?_, ?_⟩ | exact Iff.rfl | exact congrArg (fun z => V.SV.one (V.At.val (Value.int .i64 z))) (by omega)))
    · have hne : ¬ k = at_.toNat := by omega
      rw [if_neg hne, Int.sub_zero, if_pos (by omega)] at es
      exact V.NBack.at_ (k + 1) [(2, 5)] (by omega) (by omega) (by repeat' (first | exact rfl | exact Iff.rfl | exact trivial | exact (fun _ _ => rfl) | exact (fun _ h => absurd h (Nat.not_lt_zero _)) | refine ⟨?_, ?_⟩ | exact Iff.rfl | exact congrArg (fun z => V.SV.one (V.At.val (Value.int .i64 z))) (by omega))) rfl ⟨ObLe.as_ es, trivial⟩ (by repeat' (first | exact rfl | exact Iff.rfl | exact trivial | exact (fun _ _ => rfl) | exact (fun _ h => absurd h (Nat.not_lt_zero _)) | refine ⟨?_, ?_⟩ | exact Iff.rfl | exact congrArg (fun z => V.SV.one (V.At.val (Value.int .i64 z))) (by omega))) (by repeat' (first | exact rfl | exact Iff.rfl | exact trivial | exact (fun _ _ => rfl) | exact (fun _ h => absurd h (Nat.not_lt_zero _)) | refine ⟨?_, ?_⟩ | exact Iff.rfl | exact congrArg (fun z => V.SV.one (V.At.val (Value.int .i64 z))) (by omega)))
  obtain rfl : k = l.length := by omega
  repeat' ((conv => whnf); first | refine V.NCond.mk ?_ | refine V.NIf.not_ ?_ | refine V.NIf.dec_ ?_ | refine V.NIf.no (by omega) ?_ | refine V.NIf.yes (by omega) ?_ | refine V.NIf.mk (fun _ => ?_) (fun _ => ?_) | refine V.NWrap.ok (by omega) (by omega) ?_ | refine V.NWrap.u64 (by omega) (by omega) ?_ | refine V.NLt.mk (by omega) ?_ | refine V.NBoth.mk ?_ ?_ | refine V.NTF.yes (by omega) ?_ | refine V.NTF.no (by omega) ?_ | refine V.NTF.dec ?_ | refine V.NDraw.q (by exact rfl) (by kernel_rfl) ?_ | refine V.NApp.one (by first | omega | (simp; omega)) (by first | omega | (simp; omega)) ?_ | ((first | refine V.Fn.k (v_mgVal l ps nl np) [0, 1] rfl ?_ ?_ | refine V.Fn.q (v_mgVal l ps nl np) [0, 1] rfl ?_ ?_ | refine V.Fn.a (v_mgVal l ps nl np) [0, 1] rfl ?_ ?_); · ((repeat' (first | exact rfl | exact Iff.rfl | exact trivial | exact (fun _ _ => rfl) | exact (fun _ h => absurd h (Nat.not_lt_zero _)) | refine ⟨?_, ?_⟩ | exact Iff.rfl | exact congrArg (fun z => V.SV.one (V.At.val (Value.int .i64 z))) (by omega))); done)) | ((first | refine V.Fn.k (v_mgVal (K.rest l at_.toNat (K.spV l ps need at_) l.length) ps (by omega) np) [2, 1] rfl ?_ ?_ | refine V.Fn.q (v_mgVal (K.rest l at_.toNat (K.spV l ps need at_) l.length) ps (by omega) np) [2, 1] rfl ?_ ?_ | refine V.Fn.a (v_mgVal (K.rest l at_.toNat (K.spV l ps need at_) l.length) ps (by omega) np) [2, 1] rfl ?_ ?_); · ((repeat' (first | exact rfl | exact Iff.rfl | exact trivial | exact (fun _ _ => rfl) | exact (fun _ h => absurd h (Nat.not_lt_zero _)) | refine ⟨?_, ?_⟩ | exact Iff.rfl | exact congrArg (fun z => V.SV.one (V.At.val (Value.int .i64 z))) (by omega))); done)) | (refine V.NDraw.any (by kernel_rfl) ?_) | fail)
  all_goals (conv => whnf)
  all_goals exact ⟨true, rfl, iff_of_true (by omega) rfl⟩
end Go.Proofs.Ytmmfgepmochmeaa
