/- Shared texts, one behind the other: VBook8, VSumOf, VBook5, VBook6, VCal, VBook9, VBook10, VBook11, BookPl4, VLe, VBook12, BookPl5, CompPl2 -/
import Derived.Test.YtjjepkklaagmmaaZ1
import Derived.Test.YtjjepkklaagmmaaZ2
import Derived.Test.YtjjepkklaagmmaaZ3
import Derived.Test.YtjjepkklaagmmaaZ4
import Derived.Test.YtjjepkklaagmmaaZ5

/- What Post, Turn, Balance and Trial answer. -/
namespace Go.Proofs.Ytjjepkklaagmmaa
open Go Go.Sort Go.RowKit V
set_option maxRecDepth 100000
set_option linter.unusedVariables false
set_option linter.unusedSimpArgs false
set_option maxHeartbeats 4000000
theorem v_bkPost (b l : List Po) (hb : b.length ≤ 9223372036854775807) (hn : l.length ≤ 9223372036854775807) : V.FnR Try.prog 23 [.arr 3 b.length (ga encP b), .arr 3 l.length (ga encP l)] [.one (.ref 0), .one (.ref 1)] (.tup [.one (.ref 2), .one (.val (.int .i64 (Bk.pE b l)))]) [.row 62 3 (Bk.pL b l).length (ga encP (Bk.pL b l))] := by
  have pc := Bk.pE_cases b l
  have c1 := v_bkLines b hb
  have c2 := v_bkCheck l hn
  have lo := @Bk.lines_0 b
  have lc := @Bk.chk_0 l
  have pl : Bk.pE b l ≠ 0 → Bk.pL b l = [] := fun h => if_neg h
  have cm := fun (h1 : Bk.Lines b) (h2 : 0 < l.length ∧ l.length ≤ 60) (h3 : ∀ p ∈ l, Bk.Right p) => v_merged b l (Nat.le_trans h1.le (by decide)) ⟨h2.1, by omega⟩ (fun p hp => (List.mem_append.1 hp).elim (h1.r p) (h3 p))
  generalize hL : Bk.lines b = L at *
  generalize hC : Bk.chk l = C at *
  refine V.FnR.mk_ V.Tok V.mixed Try.func23 rfl Try.ntmps23 (by kernel_rfl) rfl rfl rfl rfl ?_
  repeat' ((conv => whnf); first | refine V.NCond.mk ?_ | refine V.NIf.not_ ?_ | refine V.NIf.dec_ ?_ | refine V.NIf.no (by omega) ?_ | refine V.NIf.yes (by omega) ?_ | refine V.NIf.mk (fun _ => ?_) (fun _ => ?_) | refine V.NWrap.ok (by omega) (by omega) ?_ | refine V.NWrap.u64 (by omega) (by omega) ?_ | refine V.NLt.mk (by omega) ?_ | refine V.NBoth.mk ?_ ?_ | refine V.NTF.yes (by omega) ?_ | refine V.NTF.no (by omega) ?_ | refine V.NTF.dec ?_ | refine V.NDraw.q (by exact rfl) (by kernel_rfl) ?_ | refine V.NApp.one (by first | omega | (simp; omega)) (by first | omega | (simp; omega)) ?_ | ((first | refine V.Fn.k (c1) [0] rfl ?_ ?_ | refine V.Fn.q (c1) [0] rfl ?_ ?_ | refine V.Fn.a (c1) [0] rfl ?_ ?_); · ((repeat' (first | exact rfl | exact Iff.rfl | exact trivial | exact (fun _ _ => rfl) | exact (fun _ h => absurd h (Nat.not_lt_zero _)) | refine ⟨?_, ?_⟩ | exact Iff.rfl | exact congrArg (fun z => V.SV.one (V.At.val (Value.int .i64 z))) (by omega))); done)) | ((first | refine V.Fn.k (c2) [1] rfl ?_ ?_ | refine V.Fn.q (c2) [1] rfl ?_ ?_ | refine V.Fn.a (c2) [1] rfl ?_ ?_); · ((repeat' (first | exact rfl | exact Iff.rfl | exact trivial | exact (fun _ _ => rfl) | exact (fun _ h => absurd h (Nat.not_lt_zero _)) | refine ⟨?_, ?_⟩ | exact Iff.rfl | exact congrArg (fun z => V.SV.one (V.At.val (Value.int .i64 z))) (by omega))); done)) | ((first | refine V.FnR.k_ (cm (lo (by assumption)).1 (lc (by assumption)).1 (lc (by assumption)).2.1) [0, 1] rfl ?_ ?_ | refine V.FnR.a_ (cm (lo (by assumption)).1 (lc (by assumption)).1 (lc (by assumption)).2.1) [0, 1] rfl ?_ ?_); · ((repeat' (first | exact rfl | exact Iff.rfl | exact trivial | exact (fun _ _ => rfl) | exact (fun _ h => absurd h (Nat.not_lt_zero _)) | refine ⟨?_, ?_⟩ | exact Iff.rfl | exact congrArg (fun z => V.SV.one (V.At.val (Value.int .i64 z))) (by omega))); done)) | (refine V.NDraw.any (by kernel_rfl) ?_) | fail)
  all_goals (conv => whnf)
  · have e : Bk.pE b l = Bk.mE (Bk.tot (b ++ l)) := by omega
    have eL : Bk.pL b l = Bk.mL (Bk.tot (b ++ l)) := by unfold Bk.pL Bk.mL; rw [e]
    rw [e, eL]
    exact NRet.mk_ [some 3] rfl ⟨rfl, rfl, trivial⟩ ⟨⟨rfl, rfl, rfl, fun k hk => rfl⟩, trivial⟩
  · have e : Bk.pE b l = C := by omega
    rw [pl (by omega), e]
    exact NRet.mk_ [some 3] rfl ⟨rfl, rfl, trivial⟩ ⟨⟨rfl, rfl, rfl, fun k hk => absurd hk (Nat.not_lt_zero _)⟩, trivial⟩
  · have e : Bk.pE b l = L := by omega
    rw [pl (by omega), e]
    exact NRet.mk_ [some 3] rfl ⟨rfl, rfl, trivial⟩ ⟨⟨rfl, rfl, rfl, fun k hk => absurd hk (Nat.not_lt_zero _)⟩, trivial⟩
theorem v_cloneP (l : List Po) (hn : l.length ≤ 5864062014634) : V.FnR Try.prog 66 [.arr 3 l.length (ga encP l)] [.one (.ref 0)] (.one (.ref 1)) [.row 62 3 l.length (ga encP l)] := by
  refine V.FnR.mk_ V.Tok V.mixed Try.func66 rfl Try.ntmps66 (by kernel_rfl) rfl rfl rfl rfl ?_
  repeat' ((conv => whnf); first | refine V.NCond.mk ?_ | refine V.NIf.not_ ?_ | refine V.NIf.dec_ ?_ | refine V.NIf.no (by omega) ?_ | refine V.NIf.yes (by omega) ?_ | refine V.NIf.mk (fun _ => ?_) (fun _ => ?_) | refine V.NWrap.ok (by omega) (by omega) ?_ | refine V.NWrap.u64 (by omega) (by omega) ?_ | refine V.NLt.mk (by omega) ?_ | refine V.NBoth.mk ?_ ?_ | refine V.NTF.yes (by omega) ?_ | refine V.NTF.no (by omega) ?_ | refine V.NTF.dec ?_ | refine V.NDraw.q (by exact rfl) (by kernel_rfl) ?_ | refine V.NApp.one (by first | omega | (simp; omega)) (by first | omega | (simp; omega)) ?_ | (refine NNil.mk ?_; intro p hp) | (refine NOne.mk ?_ ?_; · (intro k hk; rfl)) | (refine NApp.all_ (by first | omega | (simp; omega)) (by omega) ?_) | (refine V.NDraw.any (by kernel_rfl) ?_) | fail)
  all_goals (conv => whnf)
  · refine NRet.mk_ [some 2] rfl ?_ ?_
    · exact rfl
    · exact ⟨⟨rfl, rfl, (hp (by assumption)).symm, fun k hk => absurd hk (Nat.not_lt_zero _)⟩, trivial⟩
  · refine NRet.mk_ [some 3] rfl ?_ ?_
    · exact rfl
    · exact ⟨⟨rfl, rfl, rfl, fun _ _ => rfl⟩, trivial⟩
namespace Bk
def neg (p : Po) : Po := ⟨p.ac, p.ut, 0 - p.am⟩
def trn (l : List Po) : List Po := (l.map neg).reverse
def rv (l : List Po) : Nat → List Po
  | 0 => l
  | k + 1 => ((rv l k).set k ((rv l k).getD (l.length - 1 - k) default)).set (l.length - 1 - k) ((rv l k).getD k default)
theorem rv_len (l : List Po) : ∀ k, (rv l k).length = l.length
  | 0 => rfl
  | k + 1 => by unfold rv; rw [List.length_set, List.length_set, rv_len l k]
theorem rv_at (l : List Po) : ∀ k, 2 * k ≤ l.length → ∀ q, q < l.length → (rv l k).getD q default = if q < k ∨ l.length - 1 - k < q then l.getD (l.length - 1 - q) default else l.getD q default
  | 0, _, q, hq => by rw [if_neg (by omega)]; rfl
  | k + 1, h, q, hq => by
    have i := rv_at l k (by omega)
    have n := rv_len l k
    unfold rv
    rw [getD_at (by rw [List.length_set, List.length_set, n]; exact hq), List.getElem_set]
    by_cases e : l.length - 1 - k = q
    · rw [if_pos e, i k (by omega), if_neg (by omega), if_pos (by omega), ← e]
      congr 1
      omega
    · rw [if_neg e, List.getElem_set]
      by_cases e2 : k = q
      · rw [if_pos e2, i _ (by omega), if_neg (by omega), if_pos (by omega), ← e2]
      · rw [if_neg e2, ← getD_at (by rw [n]; exact hq), i q hq]
        by_cases e3 : q < k ∨ l.length - 1 - k < q
        · rw [if_pos e3, if_pos (by omega)]
        · rw [if_neg e3, if_neg (by omega)]
theorem rv_end (l : List Po) (k : Nat) (h1 : 2 * k ≤ l.length) (h2 : l.length ≤ 2 * k + 1) : rv l k = l.reverse := by
  refine List.ext_getElem (by rw [rv_len, List.length_reverse]) fun q q1 q2 => ?_
  rw [rv_len] at q1
  rw [← getD_at, rv_at l k h1 q q1, List.getElem_reverse, ← getD_at]
  by_cases e : q < k ∨ l.length - 1 - k < q
  · rw [if_pos e]
  · rw [if_neg e]
    congr 1
    omega
def ng (l : List Po) : Nat → List Po
  | 0 => l
  | k + 1 => (ng l k).set k (neg ((ng l k).getD k default))
theorem ng_len (l : List Po) : ∀ k, (ng l k).length = l.length
  | 0 => rfl
  | k + 1 => by unfold ng; rw [List.length_set, ng_len l k]
theorem ng_at (l : List Po) : ∀ k, k ≤ l.length → ∀ q, q < l.length → (ng l k).getD q default = if q < k then neg (l.getD q default) else l.getD q default
  | 0, _, q, hq => by rw [if_neg (by omega)]; rfl
  | k + 1, h, q, hq => by
    have i := ng_at l k (by omega)
    have n := ng_len l k
    unfold ng
    rw [getD_at (by rw [List.length_set, n]; exact hq), List.getElem_set]
    by_cases e : k = q
    · rw [if_pos e, i k (by omega), if_neg (by omega), if_pos (by omega), ← e]
    · rw [if_neg e, ← getD_at (by rw [n]; exact hq), i q hq]
      by_cases e3 : q < k
      · rw [if_pos e3, if_pos (by omega)]
      · rw [if_neg e3, if_neg (by omega)]
theorem ng_end (l : List Po) : ng l l.length = l.map neg := by
  refine List.ext_getElem (by rw [ng_len, List.length_map]) fun q q1 q2 => ?_
  rw [ng_len] at q1
  rw [← getD_at, ng_at l _ (Nat.le_refl _) q q1, if_pos q1, List.getElem_map, getD_at q1]
def tL (l : List Po) : List Po := if chk l = 0 then trn l else []
end Bk
theorem v_bkTurn (l : List Po) (hn : l.length ≤ 9223372036854775807) : V.FnR Try.prog 45 [.arr 3 l.length (ga encP l)] [.one (.ref 0)] (.tup [.one (.ref 1), .one (.val (.int .i64 (Bk.chk l)))]) [.row 62 3 (Bk.tL l).length (ga encP (Bk.tL l))] := by
  have c1 := v_bkCheck l hn
  have lc := @Bk.chk_0 l
  have tl0 : Bk.chk l = 0 → Bk.tL l = Bk.trn l := fun h => if_pos h
  have tl1 : ¬ Bk.chk l = 0 → Bk.tL l = [] := fun h => if_neg h
  generalize hC : Bk.chk l = C at *
  have cc := fun (h : l.length ≤ 60) => v_cloneP l (by omega)
  refine V.FnR.mk_ V.Tok V.mixed Try.func45 rfl Try.ntmps45 (by kernel_rfl) rfl rfl rfl rfl ?_
  repeat' ((conv => whnf); first | refine V.NCond.mk ?_ | refine V.NIf.not_ ?_ | refine V.NIf.dec_ ?_ | refine V.NIf.no (by omega) ?_ | refine V.NIf.yes (by omega) ?_ | refine V.NIf.mk (fun _ => ?_) (fun _ => ?_) | refine V.NWrap.ok (by omega) (by omega) ?_ | refine V.NWrap.u64 (by omega) (by omega) ?_ | refine V.NLt.mk (by omega) ?_ | refine V.NBoth.mk ?_ ?_ | refine V.NTF.yes (by omega) ?_ | refine V.NTF.no (by omega) ?_ | refine V.NTF.dec ?_ | refine V.NDraw.q (by exact rfl) (by kernel_rfl) ?_ | refine V.NApp.one (by first | omega | (simp; omega)) (by first | omega | (simp; omega)) ?_ | ((first | refine V.Fn.k (c1) [0] rfl ?_ ?_ | refine V.Fn.q (c1) [0] rfl ?_ ?_ | refine V.Fn.a (c1) [0] rfl ?_ ?_); · ((repeat' (first | exact rfl | exact Iff.rfl | exact trivial | exact (fun _ _ => rfl) | exact (fun _ h => absurd h (Nat.not_lt_zero _)) | refine ⟨?_, ?_⟩ | exact Iff.rfl | exact congrArg (fun z => V.SV.one (V.At.val (Value.int .i64 z))) (by omega))); done)) | ((first | refine V.FnR.k_ (cc (lc (by assumption)).1.2) [0] rfl ?_ ?_ | refine V.FnR.a_ (cc (lc (by assumption)).1.2) [0] rfl ?_ ?_); · ((repeat' (first | exact rfl | exact Iff.rfl | exact trivial | exact (fun _ _ => rfl) | exact (fun _ h => absurd h (Nat.not_lt_zero _)) | refine ⟨?_, ?_⟩ | exact Iff.rfl | exact congrArg (fun z => V.SV.one (V.At.val (Value.int .i64 z))) (by omega))); done)) | (refine V.NCall.inl (f := 67) V.Tok V.mixed Try.func67 rfl Try.ntmps67 (by kernel_rfl) rfl ?_) | (refine V.NDraw.any (by kernel_rfl) ?_) | fail)
  all_goals (conv => whnf)
  · obtain ⟨⟨n0, n1⟩, R, _⟩ := lc (by assumption)
    refine V.NLoop.auto (fun (k : Nat) => [(2, .one (.val (.int .i64 k))), (3, .one (.val (.int .i64 ((l.length : Int) - 1 - k)))), (0, .one (.ref 2))]) (fun (k : Nat) => [(2, .row 62 3 l.length (ga encP (Bk.rv l k)))]) [] [] (fun (k : Nat) => l.length - k) (fun (k : Nat) => 2 * k ≤ l.length) 0 (Nat.zero_le _) (by repeat' (first | exact rfl | exact Iff.rfl | exact trivial | exact (fun _ _ => rfl) | exact (fun _ h => absurd h (Nat.not_lt_zero _)) | refine ⟨?_, ?_⟩ | exact Iff.rfl | exact congrArg (fun z => V.SV.one (V.At.val (Value.int .i64 z))) (by omega))) (by repeat' (first | exact rfl | exact Iff.rfl | exact trivial | exact (fun _ _ => rfl) | exact (fun _ h => absurd h (Nat.not_lt_zero _)) | refine ⟨?_, ?_⟩ | exact Iff.rfl | exact congrArg (fun z => V.SV.one (V.At.val (Value.int .i64 z))) (by omega))) (fun _ => ⟨rfl, rfl⟩) ?_; (conv => whnf); refine ⟨⟨rfl, rfl⟩, ?_⟩
    rintro k hk
    have rl := Bk.rv_len l k
    repeat' ((conv => whnf); first | refine V.NCond.mk ?_ | refine V.NIf.not_ ?_ | refine V.NIf.dec_ ?_ | refine V.NIf.no (by omega) ?_ | refine V.NIf.yes (by omega) ?_ | refine V.NIf.mk (fun _ => ?_) (fun _ => ?_) | refine V.NWrap.ok (by omega) (by omega) ?_ | refine V.NWrap.u64 (by omega) (by omega) ?_ | refine V.NLt.mk (by omega) ?_ | refine V.NBoth.mk ?_ ?_ | refine V.NTF.yes (by omega) ?_ | refine V.NTF.no (by omega) ?_ | refine V.NTF.dec ?_ | refine V.NDraw.q (by exact rfl) (by kernel_rfl) ?_ | refine V.NApp.one (by first | omega | (simp; omega)) (by first | omega | (simp; omega)) ?_ | (refine NIdx.mk ⟨k, rfl, by omega, ?_⟩) | (refine NIdx.mk ⟨l.length - 1 - k, by omega, by omega, ?_⟩) | (refine NPut.is_ (en := encP) (l := Bk.rv l k) ((Bk.rv l k).getD (l.length - 1 - k) default) ((Bk.rv l k).set k ((Bk.rv l k).getD (l.length - 1 - k) default)) rfl rl rfl ?_) | (refine NPut.is_ (en := encP) (l := (Bk.rv l k).set k ((Bk.rv l k).getD (l.length - 1 - k) default)) ((Bk.rv l k).getD k default) (Bk.rv l (k + 1)) rfl (by rw [List.length_set]; exact rl) rfl ?_) | (refine V.NDraw.any (by kernel_rfl) ?_) | fail)
    all_goals (conv => whnf)
    · exact V.NBack.at_ (k + 1) [] (by omega) (by omega) (by repeat' (first | exact rfl | exact Iff.rfl | exact trivial | exact (fun _ _ => rfl) | exact (fun _ h => absurd h (Nat.not_lt_zero _)) | refine ⟨?_, ?_⟩ | exact Iff.rfl | exact congrArg (fun z => V.SV.one (V.At.val (Value.int .i64 z))) (by omega))) rfl ⟨⟨rfl, rfl, rfl, fun _ _ => rfl⟩, trivial⟩ (by repeat' (first | exact rfl | exact Iff.rfl | exact trivial | exact (fun _ _ => rfl) | exact (fun _ h => absurd h (Nat.not_lt_zero _)) | refine ⟨?_, ?_⟩ | exact Iff.rfl | exact congrArg (fun z => V.SV.one (V.At.val (Value.int .i64 z))) (by omega))) (by repeat' (first | exact rfl | exact Iff.rfl | exact trivial | exact (fun _ _ => rfl) | exact (fun _ h => absurd h (Nat.not_lt_zero _)) | refine ⟨?_, ?_⟩ | exact Iff.rfl | exact congrArg (fun z => V.SV.one (V.At.val (Value.int .i64 z))) (by omega)))
    rw [Bk.rv_end l k hk (by omega)]
    have rn : l.reverse.length = l.length := List.length_reverse
    have RR : ∀ p ∈ l.reverse, Bk.Right p := fun p hp => R p (List.mem_reverse.1 hp)
    have et : Bk.tL l = Bk.ng l.reverse l.reverse.length := by rw [tl0 (by assumption), Bk.ng_end]; exact (List.map_reverse).symm
    rw [et]
    clear et tl0 tl1 c1 cc
    generalize l.reverse = L at *
    rw [← rn]
    refine V.NLoop.auto (fun (m : Nat) => [(18, .one (.val (.int .i64 m))), (5, .one (.ref 2))]) (fun (m : Nat) => [(2, .row 62 3 L.length (ga encP (Bk.ng L m)))]) [] [] (fun (m : Nat) => L.length - m) (fun (m : Nat) => m ≤ L.length) 0 (Nat.zero_le _) (by repeat' (first | exact rfl | exact Iff.rfl | exact trivial | exact (fun _ _ => rfl) | exact (fun _ h => absurd h (Nat.not_lt_zero _)) | refine ⟨?_, ?_⟩ | exact Iff.rfl | exact congrArg (fun z => V.SV.one (V.At.val (Value.int .i64 z))) (by omega))) (by repeat' (first | exact rfl | exact Iff.rfl | exact trivial | exact (fun _ _ => rfl) | exact (fun _ h => absurd h (Nat.not_lt_zero _)) | refine ⟨?_, ?_⟩ | exact Iff.rfl | exact congrArg (fun z => V.SV.one (V.At.val (Value.int .i64 z))) (by omega))) (fun _ => ⟨rfl, rfl⟩) ?_; (conv => whnf); refine ⟨⟨rfl, rfl⟩, ?_⟩
    rintro m hm
    have nl := Bk.ng_len L m
    by_cases hlt : m < L.length
    · have na : (Bk.ng L m).getD m default = L.getD m default := by rw [Bk.ng_at L m hm m hlt, if_neg (Nat.lt_irrefl _)]
      have am := (RR _ (getD_mem hlt)).2.1
      rw [← na] at am
      unfold M.Amt at am
      repeat' ((conv => whnf); first | refine V.NCond.mk ?_ | refine V.NIf.not_ ?_ | refine V.NIf.dec_ ?_ | refine V.NIf.no (by omega) ?_ | refine V.NIf.yes (by omega) ?_ | refine V.NIf.mk (fun _ => ?_) (fun _ => ?_) | refine V.NWrap.ok (by omega) (by omega) ?_ | refine V.NWrap.u64 (by omega) (by omega) ?_ | refine V.NLt.mk (by omega) ?_ | refine V.NBoth.mk ?_ ?_ | refine V.NTF.yes (by omega) ?_ | refine V.NTF.no (by omega) ?_ | refine V.NTF.dec ?_ | refine V.NDraw.q (by exact rfl) (by kernel_rfl) ?_ | refine V.NApp.one (by first | omega | (simp; omega)) (by first | omega | (simp; omega)) ?_ | (refine NIdx.mk ⟨m, rfl, by omega, ?_⟩) | (refine NPut.is_ (en := encP) (l := Bk.ng L m) (Bk.neg ((Bk.ng L m).getD m default)) (Bk.ng L (m + 1)) rfl nl rfl ?_) | (refine V.NDraw.any (by kernel_rfl) ?_) | fail)
      all_goals (conv => whnf)
      exact V.NBack.at_ (m + 1) [] (by omega) (by omega) (by repeat' (first | exact rfl | exact Iff.rfl | exact trivial | exact (fun _ _ => rfl) | exact (fun _ h => absurd h (Nat.not_lt_zero _)) | refine ⟨?_, ?_⟩ | exact Iff.rfl | exact congrArg (fun z => V.SV.one (V.At.val (Value.int .i64 z))) (by omega))) rfl ⟨⟨rfl, rfl, rfl, fun _ _ => rfl⟩, trivial⟩ (by repeat' (first | exact rfl | exact Iff.rfl | exact trivial | exact (fun _ _ => rfl) | exact (fun _ h => absurd h (Nat.not_lt_zero _)) | refine ⟨?_, ?_⟩ | exact Iff.rfl | exact congrArg (fun z => V.SV.one (V.At.val (Value.int .i64 z))) (by omega))) (by repeat' (first | exact rfl | exact Iff.rfl | exact trivial | exact (fun _ _ => rfl) | exact (fun _ h => absurd h (Nat.not_lt_zero _)) | refine ⟨?_, ?_⟩ | exact Iff.rfl | exact congrArg (fun z => V.SV.one (V.At.val (Value.int .i64 z))) (by omega)))
    · obtain rfl : m = L.length := by omega
      repeat' ((conv => whnf); first | refine V.NCond.mk ?_ | refine V.NIf.not_ ?_ | refine V.NIf.dec_ ?_ | refine V.NIf.no (by omega) ?_ | refine V.NIf.yes (by omega) ?_ | refine V.NIf.mk (fun _ => ?_) (fun _ => ?_) | refine V.NWrap.ok (by omega) (by omega) ?_ | refine V.NWrap.u64 (by omega) (by omega) ?_ | refine V.NLt.mk (by omega) ?_ | refine V.NBoth.mk ?_ ?_ | refine V.NTF.yes (by omega) ?_ | refine V.NTF.no (by omega) ?_ | refine V.NTF.dec ?_ | refine V.NDraw.q (by exact rfl) (by kernel_rfl) ?_ | refine V.NApp.one (by first | omega | (simp; omega)) (by first | omega | (simp; omega)) ?_ | (refine V.NDraw.any (by kernel_rfl) ?_) | fail)
      all_goals (conv => whnf)
      rw [show C = 0 by assumption]
      exact NRet.mk_ [some 2] rfl ⟨rfl, rfl, trivial⟩ ⟨⟨rfl, rfl, nl.symm, fun k hk => rfl⟩, trivial⟩
  · rw [tl1 (by assumption)]
    exact NRet.mk_ [some 2] rfl ⟨rfl, rfl, trivial⟩ ⟨⟨rfl, rfl, rfl, fun k hk => absurd hk (Nat.not_lt_zero _)⟩, trivial⟩
end Go.Proofs.Ytjjepkklaagmmaa

/- What the sum of some amounts is, by the document. -/
namespace Go.Proofs.Ytjjepkklaagmmaa
open Go Go.RowKit V
set_option maxRecDepth 100000
set_option linter.unusedVariables false
theorem fin_ib {x u : Int} {p : Prop} {b : Bool} (h1 : u = x) (h2 : b = true ↔ p) : Fin1 (.one (.val (.int .i64 x))) (.int .i64 u) ∧ FinL [.one (.prop p)] [.bool b] := ⟨V.fin1 h1, ⟨b, rfl, h2.symm⟩, trivial⟩
end Go.Proofs.Ytjjepkklaagmmaa

/- What the document's functions on books answer. -/
namespace Go.Proofs.Ytjjepkklaagmmaa
open Go Go.Sort Go.RowKit V
set_option maxRecDepth 100000
set_option linter.unusedVariables false
set_option linter.unusedSimpArgs false
set_option maxHeartbeats 4000000
namespace Bk
def selB (a u : Int) (p : Po) : Bool := decide (p.ut = u ∧ (a < 0 ∨ p.ac = a))
def sel (l : List Po) (a u : Int) : List Int := (l.filter (selB a u)).map (·.am)
theorem sel_snoc (l : List Po) (p : Po) (a u : Int) : sel (l ++ [p]) a u = sel l a u ++ if p.ut = u ∧ (a < 0 ∨ p.ac = a) then [p.am] else [] := by
  unfold sel
  rw [List.filter_append, List.map_append]
  congr 1
  by_cases h : p.ut = u ∧ (a < 0 ∨ p.ac = a)
  · rw [if_pos h]; simp [selB, h]
  · rw [if_neg h]; simp [selB, h]
theorem sel_len (l : List Po) (a u : Int) : (sel l a u).length ≤ l.length := by
  unfold sel
  rw [List.length_map]
  exact List.length_filter_le _ _
theorem sel_amt {l : List Po} (h : ∀ p ∈ l, Right p) (a u : Int) : ∀ x ∈ sel l a u, M.Amt x := fun x hx => by
  obtain ⟨p, hp, rfl⟩ := List.mem_map.1 hx
  exact (h p (List.mem_filter.1 hp).1).2.1
theorem sel_amu (l : List Po) (u : Nat) : sel l (-1) u = amu l u := by
  unfold sel amu
  congr 1
  refine List.filter_congr fun p _ => ?_
  unfold selB
  rw [decide_eq_decide]
  omega
theorem sel_amk {l : List Po} (h : ∀ p ∈ l, Right p) (k : Nat) : sel l ((k / 21 : Nat) : Int) ((k % 21 : Nat) : Int) = amk l k := by
  unfold sel amk
  congr 1
  refine List.filter_congr fun p hp => ?_
  obtain ⟨k1, k2, k3⟩ := key_r (h p hp)
  unfold selB
  rw [decide_eq_decide, k2, k3]
  omega
end Bk
theorem tk_all {P : Po → Prop} {l : List Po} {k : Nat} (hk : k < l.length) (h : ∀ p ∈ l.take k, P p) (h2 : P (l.getD k default)) : ∀ p ∈ l.take (k + 1), P p := fun p hp => by
  rw [List.take_succ_eq_append_getElem hk, List.mem_append] at hp
  rcases hp with hp | hp
  · exact h p hp
  · rw [List.mem_singleton.1 hp, ← getD_at hk]; exact h2
theorem sofV_eq (l : List Int) : M.sofV l = M.sum l ∨ ¬ M.Amt (M.sum l) := by
  unfold M.sofV M.Amt
  split <;> omega
namespace Bk
def at? (a u : Int) (p : Po) : Bool := decide (p.ac = a ∧ p.ut = u)
def amAt (b : List Po) (a u : Int) : Int := if 0 ≤ ixf (at? a u) b then (b.getD (ixf (at? a u) b).toNat default).am else 0
end Bk
end Go.Proofs.Ytjjepkklaagmmaa

/- What the document's functions on books answer: what is posted. -/
namespace Go.Proofs.Ytjjepkklaagmmaa
open Go Go.Sort Go.RowKit V
set_option maxRecDepth 100000
set_option linter.unusedVariables false
set_option linter.unusedSimpArgs false
set_option maxHeartbeats 4000000
end Go.Proofs.Ytjjepkklaagmmaa

/- What the functions on calendars answer. -/
namespace Go.Proofs.Ytjjepkklaagmmaa
open Go Go.RowKit V
set_option maxRecDepth 100000
set_option linter.unusedVariables false
theorem _root_.Go.Proofs.Ytjjepkklaagmmaa.V.NBit.one {x : Int} {K : Int → Prop} (h0 : 0 ≤ x) (h1 : x ≤ 9223372036854775807) (hK : ∀ z, z = x % 2 → K z) : NBit .and .i64 x 1 K := by
  refine ⟨fun z hz => hK z ?_⟩
  have := hz default default
  rw [intBits_and, Sem.run_pure] at this
  injection this with this _
  injection this with _ this
  rw [← this]
  unfold bits
  simp only [BitVec.toNat_and, BitVec.toNat_ofInt, show IntKind.i64.bits = 64 from rfl]
  have e1 : ((1 : Int) % ((2 ^ 64 : Nat) : Int)).toNat = 1 := by decide
  have e2 : (x % ((2 ^ 64 : Nat) : Int)).toNat = x.toNat := by rw [Int.emod_eq_of_lt h0 (by simp; omega)]
  rw [e1, e2, Nat.and_one_is_mod]
  rw [IntWalk.i64_in _ ⟨by omega, by omega⟩]; omega
theorem _root_.Go.Proofs.Ytjjepkklaagmmaa.V.NShr.u64 {x y : Int} {K : Int → Prop} (n : Nat) (hy : y = n) (hn : n ≤ 64) (h1 : 0 ≤ x) (hK : ∀ z, z = x / 2 ^ n → 0 ≤ z → z ≤ x → K z) : NShr .u64 x y K := by
  subst hy
  have p : (0 : Int) ≤ 2 ^ n := Int.le_of_lt (Int.pow_pos (by omega))
  refine ⟨by omega, ?_⟩
  rw [Int.toNat_natCast, show IntKind.u64.bits = 64 from rfl, Nat.min_eq_left hn, Int.fdiv_eq_ediv_of_nonneg _ p]
  exact hK _ rfl (Int.ediv_nonneg h1 p) (Int.ediv_le_self _ h1)
theorem v_cisnan (x : Int) : V.Fn Try.prog 88 [] [.one (.val (.int .i64 x))] (.bool false) := by
  refine V.Fn.mk_ V.Tok V.mixed Try.func88 rfl Try.ntmps88 (by kernel_rfl) rfl rfl ?_
  repeat' ((conv => whnf); first | refine V.NCond.mk ?_ | refine V.NIf.not_ ?_ | refine V.NIf.dec_ ?_ | refine V.NIf.no (by omega) ?_ | refine V.NIf.yes (by omega) ?_ | refine V.NIf.mk (fun _ => ?_) (fun _ => ?_) | refine V.NWrap.ok (by omega) (by omega) ?_ | refine V.NWrap.u64 (by omega) (by omega) ?_ | refine V.NLt.mk (by omega) ?_ | refine V.NBoth.mk ?_ ?_ | refine V.NTF.yes (by omega) ?_ | refine V.NTF.no (by omega) ?_ | refine V.NTF.dec ?_ | refine V.NDraw.q (by exact rfl) (by kernel_rfl) ?_ | refine V.NApp.one (by first | omega | (simp; omega)) (by first | omega | (simp; omega)) ?_ | (refine V.NDraw.any (by kernel_rfl) ?_) | fail)
  exact ⟨_, rfl, by simp⟩
theorem v_cless (x y : Int) : V.Fn Try.prog 97 [] [.one (.val (.int .i64 x)), .one (.val (.int .i64 y))] (.bool (decide (x < y))) := by
  refine V.Fn.mk_ V.Tok V.mixed Try.func97 rfl Try.ntmps97 (by kernel_rfl) rfl rfl ?_
  repeat' ((conv => whnf); first | refine V.NCond.mk ?_ | refine V.NIf.not_ ?_ | refine V.NIf.dec_ ?_ | refine V.NIf.no (by omega) ?_ | refine V.NIf.yes (by omega) ?_ | refine V.NIf.mk (fun _ => ?_) (fun _ => ?_) | refine V.NWrap.ok (by omega) (by omega) ?_ | refine V.NWrap.u64 (by omega) (by omega) ?_ | refine V.NLt.mk (by omega) ?_ | refine V.NBoth.mk ?_ ?_ | refine V.NTF.yes (by omega) ?_ | refine V.NTF.no (by omega) ?_ | refine V.NTF.dec ?_ | refine V.NDraw.q (by exact rfl) (by kernel_rfl) ?_ | refine V.NApp.one (by first | omega | (simp; omega)) (by first | omega | (simp; omega)) ?_ | (first | refine V.Fn.k0 (v_cisnan _) rfl ?_ | refine V.Fn.q0 (v_cisnan _) rfl ?_ | refine V.Fn.a0 (v_cisnan _) rfl ?_) | (refine V.NDraw.any (by kernel_rfl) ?_) | fail)
  all_goals (conv => whnf)
  all_goals (first | exact ⟨_, rfl, iff_of_true (by omega) rfl⟩ | (exfalso; omega) | exact ⟨_, rfl, by simp; omega⟩ | exact ⟨_, rfl, by simp⟩)
end Go.Proofs.Ytjjepkklaagmmaa

/- What Balance and Trial answer. -/
namespace Go.Proofs.Ytjjepkklaagmmaa
open Go Go.Sort Go.RowKit V
set_option maxRecDepth 100000
set_option linter.unusedVariables false
set_option linter.unusedSimpArgs false
set_option maxHeartbeats 4000000
namespace Bk
def lbk (b : List Po) (t : Po) : Nat := (b.takeWhile fun p => lx p t).length
theorem lbk_is {t : Po} : ∀ {b : List Po} {i : Nat}, i ≤ b.length → (∀ k, k < i → lx (b.getD k default) t = true) → (i < b.length → lx (b.getD i default) t = false) → lbk b t = i
  | [], i, hi, _, _ => by simp at hi; subst hi; rfl
  | p :: r, 0, _, _, h2 => by
    have := h2 (by simp)
    unfold lbk
    rw [List.takeWhile_cons_of_neg (by simpa using this)]
    rfl
  | p :: r, i + 1, hi, h1, h2 => by
    have e := h1 0 (by omega)
    have q := lbk_is (b := r) (i := i) (by simpa using hi) (fun k hk => by have := h1 (k + 1) (by omega); simpa using this) (fun h => by have := h2 (by simpa using h); simpa using this)
    unfold lbk at *
    rw [List.takeWhile_cons_of_pos (by simpa using e), List.length_cons, q]
def hit (b : List Po) (t : Po) : Bool := b.any fun p => decide (p.ac = t.ac ∧ p.ut = t.ut)
theorem lx_irr (p : Po) : lx p p = false := by unfold lx; simp
theorem hit_yes {b : List Po} {t : Po} {i : Nat} (h : i < b.length) (h1 : (b.getD i default).ac = t.ac ∧ (b.getD i default).ut = t.ut) : hit b t = true := List.any_eq_true.2 ⟨_, getD_mem h, by simpa using h1⟩
theorem hit_no {b : List Po} {t : Po} {i : Nat} (s : b.Pairwise fun p q => lx p q = true) (h1 : ∀ k, k < i → lx (b.getD k default) t = true) (h2 : ∀ k, i ≤ k → k < b.length → lx (b.getD k default) t = false) (h3 : i < b.length → ¬ ((b.getD i default).ac = t.ac ∧ (b.getD i default).ut = t.ut)) : hit b t = false := by
  refine Bool.eq_false_iff.2 fun z => ?_
  obtain ⟨p, hp, e⟩ := List.any_eq_true.1 z
  obtain ⟨k, hk, rfl⟩ := List.getElem_of_mem hp
  rw [decide_eq_true_eq, ← getD_at hk] at e
  by_cases q : k < i
  · have := h1 k q
    unfold lx at this
    rw [decide_eq_true_eq] at this
    omega
  · by_cases q2 : k = i
    · subst q2; exact h3 hk e
    · have a := List.pairwise_iff_getElem.1 s i k (by omega) hk (by omega)
      have c := h2 i (Nat.le_refl _) (by omega)
      rw [← getD_at (show i < b.length by omega), ← getD_at hk] at a
      unfold lx at a c
      rw [decide_eq_true_eq] at a
      rw [decide_eq_false_iff_not] at c
      omega
end Bk
theorem v_bsearchP (b : List Po) (t : Po) (hn : b.length ≤ 1000) (hs : b.Pairwise fun p q => Bk.lx p q = true) : V.Fn Try.prog 52 [.arr 3 b.length (ga encP b)] [.one (.ref 0), .agg [.val (.int .i64 t.ac), .val (.int .i64 t.ut), .val (.int .i64 t.am)], .one (.clo 53 [])] (.tuple #[.int .i64 (Bk.lbk b t), .bool (Bk.hit b t)]) := by
  refine V.Fn.mk_ V.Tok V.mixed Try.func52 rfl Try.ntmps52 (by kernel_rfl) rfl rfl ?_
  repeat' ((conv => whnf); first | refine V.NCond.mk ?_ | refine V.NIf.not_ ?_ | refine V.NIf.dec_ ?_ | refine V.NIf.no (by omega) ?_ | refine V.NIf.yes (by omega) ?_ | refine V.NIf.mk (fun _ => ?_) (fun _ => ?_) | refine V.NWrap.ok (by omega) (by omega) ?_ | refine V.NWrap.u64 (by omega) (by omega) ?_ | refine V.NLt.mk (by omega) ?_ | refine V.NBoth.mk ?_ ?_ | refine V.NTF.yes (by omega) ?_ | refine V.NTF.no (by omega) ?_ | refine V.NTF.dec ?_ | refine V.NDraw.q (by exact rfl) (by kernel_rfl) ?_ | refine V.NApp.one (by first | omega | (simp; omega)) (by first | omega | (simp; omega)) ?_ | (refine V.NDraw.any (by kernel_rfl) ?_) | fail)
  refine V.NLoop.auto (fun (s : Nat × Nat) => [(9, .one (.val (.int .i64 s.1))), (10, .one (.val (.int .i64 s.2)))]) (fun (s : Nat × Nat) => []) [] [] (fun (s : Nat × Nat) => s.2 - s.1) (fun (s : Nat × Nat) => s.1 ≤ s.2 ∧ s.2 ≤ b.length ∧ (∀ k, k < s.1 → Bk.lx (b.getD k default) t = true) ∧ (∀ k, s.2 ≤ k → k < b.length → Bk.lx (b.getD k default) t = false)) (0, b.length) ⟨Nat.zero_le _, Nat.le_refl _, fun k h => absurd h (Nat.not_lt_zero _), fun k h1 h2 => absurd h2 (by dsimp only at h1; omega)⟩ (by repeat' (first | exact rfl | exact Iff.rfl | exact trivial | exact (fun _ _ => rfl) | exact (fun _ h => absurd h (Nat.not_lt_zero _)) | refine ⟨?_, ?_⟩ | exact Iff.rfl | exact congrArg (fun z => V.SV.one (V.At.val (Value.int .i64 z))) (by omega))) (by repeat' (first | exact rfl | exact Iff.rfl | exact trivial | exact (fun _ _ => rfl) | exact (fun _ h => absurd h (Nat.not_lt_zero _)) | refine ⟨?_, ?_⟩ | exact Iff.rfl | exact congrArg (fun z => V.SV.one (V.At.val (Value.int .i64 z))) (by omega))) (fun _ => ⟨rfl, rfl⟩) ?_; (conv => whnf); refine ⟨⟨rfl, rfl⟩, ?_⟩
  rintro s ⟨h1, h2, h3, h4⟩
  generalize s.1 = i at *
  generalize s.2 = j at *
  have c1 := v_order (b.getD ((i + j) / 2) default) t
  have c2 := v_order (b.getD i default) t
  have o1 := order_lt (b.getD ((i + j) / 2) default) t
  have o2 := order_eq (b.getD i default) t
  have o3 := order_eq (b.getD ((i + j) / 2) default) t
  generalize orI (cmpI (b.getD ((i + j) / 2) default).ac t.ac) (cmpI (b.getD ((i + j) / 2) default).ut t.ut) = x1 at *
  generalize orI (cmpI (b.getD i default).ac t.ac) (cmpI (b.getD i default).ut t.ut) = x2 at *
  have tr : ∀ p q : Nat, p < q → q < b.length → Bk.lx (b.getD p default) (b.getD q default) = true := fun p q h h' => by
    have := List.pairwise_iff_getElem.1 hs p q (by omega) h' h
    rwa [← getD_at (by omega), ← getD_at h'] at this
  repeat' ((conv => whnf); first | refine V.NCond.mk ?_ | refine V.NIf.not_ ?_ | refine V.NIf.dec_ ?_ | refine V.NIf.no (by omega) ?_ | refine V.NIf.yes (by omega) ?_ | refine V.NIf.mk (fun _ => ?_) (fun _ => ?_) | refine V.NWrap.ok (by omega) (by omega) ?_ | refine V.NWrap.u64 (by omega) (by omega) ?_ | refine V.NLt.mk (by omega) ?_ | refine V.NBoth.mk ?_ ?_ | refine V.NTF.yes (by omega) ?_ | refine V.NTF.no (by omega) ?_ | refine V.NTF.dec ?_ | refine V.NDraw.q (by exact rfl) (by kernel_rfl) ?_ | refine V.NApp.one (by first | omega | (simp; omega)) (by first | omega | (simp; omega)) ?_ | (refine NShr.u64 1 rfl (by omega) (by omega) ?_; intro z hz hz0 hz1) | (refine NIdx.mk ⟨(i + j) / 2, by omega, by omega, ?_⟩) | (refine NIdx.mk ⟨i, rfl, by omega, ?_⟩) | (first | refine V.Fn.k0 (c1) rfl ?_ | refine V.Fn.q0 (c1) rfl ?_ | refine V.Fn.a0 (c1) rfl ?_) | (first | refine V.Fn.k0 (c2) rfl ?_ | refine V.Fn.q0 (c2) rfl ?_ | refine V.Fn.a0 (c2) rfl ?_) | (refine V.NDraw.any (by kernel_rfl) ?_) | fail)
  all_goals (conv => whnf)
  · have e : Bk.lx (b.getD ((i + j) / 2) default) t = true := by rw [← o1]; exact decide_eq_true (by assumption)
    refine V.NBack.at_ ((i + j) / 2 + 1, j) [] ⟨by dsimp only; omega, h2, fun k hk => ?_, h4⟩ (by dsimp only; omega) (by repeat' (first | exact rfl | exact Iff.rfl | exact trivial | exact (fun _ _ => rfl) | exact (fun _ h => absurd h (Nat.not_lt_zero _)) | refine ⟨?_, ?_⟩ | exact Iff.rfl | exact congrArg (fun z => V.SV.one (V.At.val (Value.int .i64 z))) (by omega))) rfl (by repeat' (first | exact rfl | exact Iff.rfl | exact trivial | exact (fun _ _ => rfl) | exact (fun _ h => absurd h (Nat.not_lt_zero _)) | refine ⟨?_, ?_⟩ | exact Iff.rfl | exact congrArg (fun z => V.SV.one (V.At.val (Value.int .i64 z))) (by omega))) (by repeat' (first | exact rfl | exact Iff.rfl | exact trivial | exact (fun _ _ => rfl) | exact (fun _ h => absurd h (Nat.not_lt_zero _)) | refine ⟨?_, ?_⟩ | exact Iff.rfl | exact congrArg (fun z => V.SV.one (V.At.val (Value.int .i64 z))) (by omega))) (by repeat' (first | exact rfl | exact Iff.rfl | exact trivial | exact (fun _ _ => rfl) | exact (fun _ h => absurd h (Nat.not_lt_zero _)) | refine ⟨?_, ?_⟩ | exact Iff.rfl | exact congrArg (fun z => V.SV.one (V.At.val (Value.int .i64 z))) (by omega)))
    by_cases q : k = (i + j) / 2
    · rw [q]; exact e
    · exact Bk.lx_trans (tr k ((i + j) / 2) (by dsimp only at hk; omega) (by omega)) e
  · have e : Bk.lx (b.getD ((i + j) / 2) default) t = false := by rw [← o1]; exact decide_eq_false (by assumption)
    refine V.NBack.at_ (i, (i + j) / 2) [] ⟨by dsimp only; omega, by dsimp only; omega, h3, fun k h5 h6 => ?_⟩ (by dsimp only; omega) (by repeat' (first | exact rfl | exact Iff.rfl | exact trivial | exact (fun _ _ => rfl) | exact (fun _ h => absurd h (Nat.not_lt_zero _)) | refine ⟨?_, ?_⟩ | exact Iff.rfl | exact congrArg (fun z => V.SV.one (V.At.val (Value.int .i64 z))) (by omega))) rfl (by repeat' (first | exact rfl | exact Iff.rfl | exact trivial | exact (fun _ _ => rfl) | exact (fun _ h => absurd h (Nat.not_lt_zero _)) | refine ⟨?_, ?_⟩ | exact Iff.rfl | exact congrArg (fun z => V.SV.one (V.At.val (Value.int .i64 z))) (by omega))) (by repeat' (first | exact rfl | exact Iff.rfl | exact trivial | exact (fun _ _ => rfl) | exact (fun _ h => absurd h (Nat.not_lt_zero _)) | refine ⟨?_, ?_⟩ | exact Iff.rfl | exact congrArg (fun z => V.SV.one (V.At.val (Value.int .i64 z))) (by omega))) (by repeat' (first | exact rfl | exact Iff.rfl | exact trivial | exact (fun _ _ => rfl) | exact (fun _ h => absurd h (Nat.not_lt_zero _)) | refine ⟨?_, ?_⟩ | exact Iff.rfl | exact congrArg (fun z => V.SV.one (V.At.val (Value.int .i64 z))) (by omega)))
    by_cases q : k = (i + j) / 2
    · rw [q]; exact e
    · refine Bool.eq_false_iff.2 fun z => ?_
      rw [Bk.lx_trans (tr ((i + j) / 2) k (by dsimp only at h5; omega) h6) z] at e
      cases e
  · obtain rfl : i = j := by omega
    rw [show (i + i) / 2 = i by omega] at o3
    have e1 := Bk.lbk_is h2 h3 (fun h => h4 i (Nat.le_refl _) h)
    rw [e1]
    have e2 : x1 = 0 → Bk.hit b t = true := fun h => Bk.hit_yes (i := i) (by omega) (o3.1 h)
    have e3 : ¬ x1 = 0 → Bk.hit b t = false := fun h => Bk.hit_no hs h3 h4 (fun _ z => h (o3.2 z))
    refine ⟨rfl, ⟨_, rfl, ?_⟩, trivial⟩
    by_cases q : x1 = 0
    · rw [e2 q]; simp [q]
    · rw [e3 q]; simp [q]
  · obtain rfl : i = j := by omega
    have e1 := Bk.lbk_is h2 h3 (fun h => h4 i (Nat.le_refl _) h)
    rw [e1]
    exact ⟨rfl, congrArg Value.bool (Bk.hit_no hs h3 h4 (fun h => absurd h (by omega))).symm, trivial⟩
namespace Bk
def Kn (a u : Int) : Prop := (0 ≤ a ∧ a ≤ 100) ∧ (0 ≤ u ∧ u ≤ 20)
instance (a u : Int) : Decidable (Kn a u) := by unfold Kn; exact inferInstance
def bE (b : List Po) (a u : Int) : Int := if lines b ≠ 0 then lines b else if Kn a u then 0 else 3
def bV (b : List Po) (a u : Int) : Int := if bE b a u = 0 then amAt b a u else 0
theorem hit_at {b : List Po} {t : Po} (s : b.Pairwise fun p q => lx p q = true) : (hit b t = true → lbk b t < b.length ∧ (b.getD (lbk b t) default).am = amAt b t.ac t.ut) ∧ (hit b t = false → amAt b t.ac t.ut = 0) := by
  refine ⟨fun h => ?_, fun h => ?_⟩
  · obtain ⟨p, hp, e⟩ := List.any_eq_true.1 h
    obtain ⟨k, hk, rfl⟩ := List.getElem_of_mem hp
    rw [decide_eq_true_eq] at e
    have pre : ∀ m, m < k → lx (b.getD m default) t = true := fun m hm => by
      have := List.pairwise_iff_getElem.1 s m k (by omega) hk hm
      rw [← getD_at (show m < b.length by omega)] at this
      unfold lx at *
      rw [decide_eq_true_eq] at *
      omega
    have at0 : lx (b.getD k default) t = false := by
      rw [getD_at hk]
      unfold lx
      rw [decide_eq_false_iff_not]
      omega
    have l := lbk_is (t := t) (b := b) (i := k) (by omega) pre (fun _ => at0)
    rw [l]
    refine ⟨hk, ?_⟩
    have ix := ixf_get (p := at? t.ac t.ut) hk (fun d hd => by
      obtain ⟨m, hm, rfl⟩ := List.getElem_of_mem hd
      rw [List.length_take] at hm
      rw [List.getElem_take, ← getD_at (show m < b.length by omega)]
      have := pre m (by omega)
      unfold lx at this
      rw [decide_eq_true_eq] at this
      exact decide_eq_false (by omega)) (decide_eq_true (by rw [getD_at hk]; exact e))
    unfold amAt
    rw [ix, if_pos (by omega), Int.toNat_natCast]
  · unfold amAt
    rw [ixf_no fun d hd => ?_, if_neg (by decide)]
    have := List.any_eq_false.1 h d hd
    rw [decide_eq_true_eq] at this
    exact decide_eq_false this
end Bk
theorem v_bkBalance (b : List Po) (a u : Int) (hb : b.length ≤ 9223372036854775807) : V.Fn Try.prog 24 [.arr 3 b.length (ga encP b)] [.one (.ref 0), .one (.val (.int .i64 a)), .one (.val (.int .i64 u))] (.tuple #[.int .i64 (Bk.bV b a u), .int .i64 (Bk.bE b a u)]) := by
  have c1 := v_bkLines b hb
  have c2 := v_bkKnown a u
  have c3 := fun (h : Bk.Lines b) => v_bsearchP b ⟨a, u, 0⟩ (Nat.le_trans h.le (by decide)) h.s
  have hh := fun (h : Bk.Lines b) => Bk.hit_at (t := ⟨a, u, 0⟩) h.s
  have lo := @Bk.lines_0 b
  have e1 : Bk.lines b ≠ 0 → Bk.bE b a u = Bk.lines b := fun h => if_pos h
  have e2 : Bk.lines b = 0 → ¬ Bk.Kn a u → Bk.bE b a u = 3 := fun h h2 => (if_neg (fun z => z h)).trans (if_neg h2)
  have e3 : Bk.lines b = 0 → Bk.Kn a u → Bk.bE b a u = 0 := fun h h2 => (if_neg (fun z => z h)).trans (if_pos h2)
  have v0 : Bk.bE b a u ≠ 0 → Bk.bV b a u = 0 := fun h => if_neg h
  have v1 : Bk.bE b a u = 0 → Bk.bV b a u = Bk.amAt b a u := fun h => if_pos h
  generalize Bk.lines b = L at *
  generalize Bk.lbk b ⟨a, u, 0⟩ = ix at *
  generalize Bk.hit b ⟨a, u, 0⟩ = ht at *
  refine V.Fn.mk_ V.Tok V.mixed Try.func24 rfl Try.ntmps24 (by kernel_rfl) rfl rfl ?_
  repeat' ((conv => whnf); first | refine V.NCond.mk ?_ | refine V.NIf.not_ ?_ | refine V.NIf.dec_ ?_ | refine V.NIf.no (by omega) ?_ | refine V.NIf.yes (by omega) ?_ | refine V.NIf.mk (fun _ => ?_) (fun _ => ?_) | refine V.NWrap.ok (by omega) (by omega) ?_ | refine V.NWrap.u64 (by omega) (by omega) ?_ | refine V.NLt.mk (by omega) ?_ | refine V.NBoth.mk ?_ ?_ | refine V.NTF.yes (by omega) ?_ | refine V.NTF.no (by omega) ?_ | refine V.NTF.dec ?_ | refine V.NDraw.q (by exact rfl) (by kernel_rfl) ?_ | refine V.NApp.one (by first | omega | (simp; omega)) (by first | omega | (simp; omega)) ?_ | (refine NIdx.mk ⟨ix, rfl, ((hh (lo (by assumption)).1).1 (by assumption)).1, ?_⟩) | (refine V.NLt.mk ((hh (lo (by assumption)).1).1 (by assumption)).1 ?_) | ((first | refine V.Fn.k (c1) [0] rfl ?_ ?_ | refine V.Fn.q (c1) [0] rfl ?_ ?_ | refine V.Fn.a (c1) [0] rfl ?_ ?_); · ((repeat' (first | exact rfl | exact Iff.rfl | exact trivial | exact (fun _ _ => rfl) | exact (fun _ h => absurd h (Nat.not_lt_zero _)) | refine ⟨?_, ?_⟩ | exact Iff.rfl | exact congrArg (fun z => V.SV.one (V.At.val (Value.int .i64 z))) (by omega))); done)) | (first | refine V.Fn.k0 (c2) rfl ?_ | refine V.Fn.q0 (c2) rfl ?_ | refine V.Fn.a0 (c2) rfl ?_) | ((first | refine V.Fn.k (c3 (lo (by assumption)).1) [0] rfl ?_ ?_ | refine V.Fn.q (c3 (lo (by assumption)).1) [0] rfl ?_ ?_ | refine V.Fn.a (c3 (lo (by assumption)).1) [0] rfl ?_ ?_); · ((repeat' (first | exact rfl | exact Iff.rfl | exact trivial | exact (fun _ _ => rfl) | exact (fun _ h => absurd h (Nat.not_lt_zero _)) | refine ⟨?_, ?_⟩ | exact Iff.rfl | exact congrArg (fun z => V.SV.one (V.At.val (Value.int .i64 z))) (by omega))); done)) | (refine V.NDraw.any (by kernel_rfl) ?_) | fail)
  all_goals (conv => whnf)
  · have e := e3 (by assumption) (by assumption)
    exact ⟨V.fin1 ((v1 e).trans ((hh (lo (by assumption)).1).1 (by assumption)).2.symm), congrArg (Value.int .i64) e.symm, trivial⟩
  · have e := e3 (by assumption) (by assumption)
    exact ⟨V.fin1 ((v1 e).trans ((hh (lo (by assumption)).1).2 (by simpa using ‹¬ ht = true›))), congrArg (Value.int .i64) e.symm, trivial⟩
  · have e := e2 (by assumption) (by assumption)
    exact ⟨V.fin1 (v0 (by omega)), congrArg (Value.int .i64) e.symm, trivial⟩
  · have e := e1 (by assumption)
    exact ⟨V.fin1 (v0 (by omega)), congrArg (Value.int .i64) e.symm, trivial⟩
end Go.Proofs.Ytjjepkklaagmmaa

/- What Trial answers, and the document's. -/
namespace Go.Proofs.Ytjjepkklaagmmaa
open Go Go.Sort Go.RowKit V
set_option maxRecDepth 100000
set_option linter.unusedVariables false
set_option linter.unusedSimpArgs false
set_option maxHeartbeats 4000000
namespace Bk
def mx (a : Int) : Int := if a < 0 then 0 else a
def up (b : List Po) : List Po := b.map fun p => ⟨p.ac, p.ut, mx p.am⟩
def pos (l : List Int) : List Int := l.filter fun a => decide (0 < a)
def ts (b : List Po) (u : Nat) : Int := M.sum (pos (amu b u))
theorem ws_amt {l : List Po} (hr : ∀ p ∈ l, M.Amt p.am) (k u : Nat) : (ws l k u).1 * 1152921504606846976 + (ws l k u).2 = M.sum (amu (l.take k) u) ∧ (-1152921504606846976 < (ws l k u).2 ∧ (ws l k u).2 < 1152921504606846976) ∧ -(l.length : Int) ≤ (ws l k u).1 ∧ (ws l k u).1 ≤ l.length := by
  obtain ⟨a, b, c⟩ := wst_spec (amu (l.take k) u) (fun a ha => by
    obtain ⟨p, hp, rfl⟩ := List.mem_map.1 ha
    exact hr p (List.mem_of_mem_take (List.mem_filter.1 hp).1))
  have d := amu_len (l.take k) u
  have e : (l.take k).length ≤ l.length := by rw [List.length_take]; omega
  unfold ws
  exact ⟨a, b, by omega, by omega⟩
theorem up_len (b : List Po) : (up b).length = b.length := List.length_map _
theorem up_at {b : List Po} {k : Nat} (h : k < b.length) : (up b).getD k default = ⟨(b.getD k default).ac, (b.getD k default).ut, mx (b.getD k default).am⟩ := by
  rw [getD_at (by rw [up_len]; exact h), getD_at h]
  simp [up]
theorem up_amt {b : List Po} (h : ∀ p ∈ b, Right p) : ∀ p ∈ up b, M.Amt p.am := fun p hp => by
  obtain ⟨q, hq, rfl⟩ := List.mem_map.1 hp
  have := (h q hq).2.1
  unfold M.Amt mx at *
  simp only
  split <;> omega
theorem pos_sum : ∀ l : List Int, M.sum (l.map mx) = M.sum (pos l)
  | [] => rfl
  | a :: r => by
    have i := pos_sum r
    rw [List.map_cons]
    show mx a + M.sum (r.map mx) = M.sum (pos (a :: r))
    rw [i]
    by_cases h : 0 < a
    · rw [show pos (a :: r) = a :: pos r from List.filter_cons_of_pos (decide_eq_true h), show mx a = a from if_neg (by omega)]
      rfl
    · rw [show pos (a :: r) = pos r from List.filter_cons_of_neg (by rw [decide_eq_true_eq]; exact h), show mx a = 0 by unfold mx; split <;> omega]
      omega
theorem up_amu (b : List Po) (u : Nat) : amu (up b) u = (amu b u).map mx := by
  unfold amu up
  rw [List.filter_map, List.map_map, List.map_map]
  rfl
theorem up_ts (b : List Po) (u : Nat) : M.sum (amu (up b) u) = ts b u := by rw [up_amu, pos_sum]; rfl
def tw (b : List Po) : Bool := (List.range 21).any fun u => !decide (M.Amt (ts b u))
def tE (b : List Po) : Int := if lines b ≠ 0 then lines b else if tw b = true then 8 else 0
def tV (b : List Po) : List Int := if tE b = 0 then (List.range 21).map (ts b) else []
theorem tw_yes {b : List Po} {u : Nat} (hu : u < 21) (h : ¬ M.Amt (ts b u)) : tw b = true := List.any_eq_true.2 ⟨u, List.mem_range.2 hu, by simp [h]⟩
theorem tw_no {b : List Po} (h : ∀ u, u < 21 → M.Amt (ts b u)) : tw b = false := by
  cases q : tw b
  · rfl
  · obtain ⟨k, hk, e⟩ := List.any_eq_true.1 q
    have := h k (List.mem_range.1 hk)
    simp [this] at e
def tl (b : List Po) (i : Nat) : List Int := (List.range 21).map fun q => if q < i then ts b q else 0
theorem tl_len (b : List Po) (i : Nat) : (tl b i).length = 21 := by simp [tl]
theorem tl_0 (b : List Po) (q : Nat) (h : q < 21) : ga e1 (tl b 0) q = [.int .i64 0] := by
  unfold ga
  rw [getD_at (by rw [tl_len]; exact h)]
  simp [tl, e1]
theorem tl_set {b : List Po} {i : Nat} (h : i < 21) : (tl b i).set i (ts b i) = tl b (i + 1) := by
  refine List.ext_getElem (by simp [tl]) fun q q1 q2 => ?_
  rw [List.getElem_set]
  simp only [tl, List.getElem_map, List.getElem_range]
  by_cases e : i = q
  · rw [if_pos e, if_pos (by omega), e]
  · rw [if_neg e]
    by_cases z : q < i
    · rw [if_pos z, if_pos (by omega)]
    · rw [if_neg z, if_neg (by omega)]
theorem tl_end (b : List Po) : tl b 21 = (List.range 21).map (ts b) := by
  unfold tl
  refine List.map_congr_left fun q hq => ?_
  rw [if_pos (List.mem_range.1 hq)]
end Bk
theorem v_bkTrial (b : List Po) (hb : b.length ≤ 9223372036854775807) : V.FnR Try.prog 46 [.arr 3 b.length (ga encP b)] [.one (.ref 0)] (.tup [.one (.ref 1), .one (.val (.int .i64 (Bk.tE b)))]) [.row 3 1 (Bk.tV b).length (ga e1 (Bk.tV b))] := by
  have c1 := v_bkLines b hb
  have lo := @Bk.lines_0 b
  have x1 : Bk.lines b ≠ 0 → Bk.tE b = Bk.lines b := fun h => if_pos h
  have x2 : Bk.lines b = 0 → Bk.tw b = true → Bk.tE b = 8 := fun h h2 => (if_neg (fun z => z h)).trans (if_pos h2)
  have x3 : Bk.lines b = 0 → Bk.tw b = false → Bk.tE b = 0 := fun h h2 => (if_neg (fun z => z h)).trans (if_neg (by rw [h2]; decide))
  have v0 : Bk.tE b ≠ 0 → Bk.tV b = [] := fun h => if_neg h
  have v1 : Bk.tE b = 0 → Bk.tV b = (List.range 21).map (Bk.ts b) := fun h => if_pos h
  generalize Bk.lines b = L at *
  refine V.FnR.mk_ V.Tok V.mixed Try.func46 rfl Try.ntmps46 (by kernel_rfl) rfl rfl rfl rfl ?_
  repeat' ((conv => whnf); first | refine V.NCond.mk ?_ | refine V.NIf.not_ ?_ | refine V.NIf.dec_ ?_ | refine V.NIf.no (by omega) ?_ | refine V.NIf.yes (by omega) ?_ | refine V.NIf.mk (fun _ => ?_) (fun _ => ?_) | refine V.NWrap.ok (by omega) (by omega) ?_ | refine V.NWrap.u64 (by omega) (by omega) ?_ | refine V.NLt.mk (by omega) ?_ | refine V.NBoth.mk ?_ ?_ | refine V.NTF.yes (by omega) ?_ | refine V.NTF.no (by omega) ?_ | refine V.NTF.dec ?_ | refine V.NDraw.q (by exact rfl) (by kernel_rfl) ?_ | refine V.NApp.one (by first | omega | (simp; omega)) (by first | omega | (simp; omega)) ?_ | ((first | refine V.Fn.k (c1) [0] rfl ?_ ?_ | refine V.Fn.q (c1) [0] rfl ?_ ?_ | refine V.Fn.a (c1) [0] rfl ?_ ?_); · ((repeat' (first | exact rfl | exact Iff.rfl | exact trivial | exact (fun _ _ => rfl) | exact (fun _ h => absurd h (Nat.not_lt_zero _)) | refine ⟨?_, ?_⟩ | exact Iff.rfl | exact congrArg (fun z => V.SV.one (V.At.val (Value.int .i64 z))) (by omega))); done)) | (refine V.NDraw.any (by kernel_rfl) ?_) | fail)
  all_goals (conv => whnf)
  · obtain ⟨⟨lb, hr, hs⟩, _⟩ := lo (by assumption)
    have ua := Bk.up_amt hr
    have ul := Bk.up_len b
    refine V.NLoop.auto (fun (k : Nat) => [(19, .one (.val (.int .i64 k)))]) (fun (k : Nat) => [(2, .row 92 2 21 (fun q => [.int .i64 (Bk.ws (Bk.up b) k q).1, .int .i64 (Bk.ws (Bk.up b) k q).2]))]) [] [] (fun (k : Nat) => b.length - k) (fun (k : Nat) => k ≤ b.length) 0 (Nat.zero_le _) (by repeat' (first | exact rfl | exact Iff.rfl | exact trivial | exact (fun _ _ => rfl) | exact (fun _ h => absurd h (Nat.not_lt_zero _)) | refine ⟨?_, ?_⟩ | exact Iff.rfl | exact congrArg (fun z => V.SV.one (V.At.val (Value.int .i64 z))) (by omega))) (by (conv => whnf); exact ⟨⟨rfl, rfl, rfl, fun k hk => (show List.take 2 (List.drop (k * 2) (List.replicate (21 * 2) (Value.int .i64 0))) = _ from arr2 hk)⟩, trivial⟩) (fun _ => ⟨rfl, rfl⟩) ?_; (conv => whnf); refine ⟨⟨rfl, rfl⟩, ?_⟩
    rintro k hk
    by_cases hlt : k < b.length
    · obtain ⟨⟨h1, h2⟩, h3, h4⟩ := hr _ (getD_mem hlt)
      obtain ⟨u, hu⟩ : ∃ u : Nat, (b.getD k default).ut = (u : Int) := ⟨(b.getD k default).ut.toNat, by omega⟩
      obtain ⟨-, ws, wl⟩ := Bk.ws_amt ua k u
      rw [ul] at wl
      have hx := Bk.ws_succ (l := Bk.up b) (by rw [ul]; exact hlt) u (by rw [Bk.up_at hlt]; exact hu)
      rw [show ((Bk.up b).getD k default).am = Bk.mx (b.getD k default).am by rw [Bk.up_at hlt]] at hx
      have hm2 : Bk.mx (b.getD k default).am = 0 ∨ Bk.mx (b.getD k default).am = (b.getD k default).am := by unfold Bk.mx; split <;> simp
      have lb' := lb
      unfold M.Amt at h3
      have dm := Bk.tdm ((Bk.ws (Bk.up b) k u).2 + Bk.mx (b.getD k default).am)
      have hx : ∀ q, Bk.ws (Bk.up b) (k + 1) q = Bk.put (Bk.ws (Bk.up b) k) u ((Bk.ws (Bk.up b) k u).1 + ((Bk.ws (Bk.up b) k u).2 + Bk.mx (b.getD k default).am).tdiv 1152921504606846976, ((Bk.ws (Bk.up b) k u).2 + Bk.mx (b.getD k default).am).tmod 1152921504606846976) q := fun q => hx q
      generalize Bk.ws (Bk.up b) k = W at *
      obtain ⟨A, hA⟩ : ∃ A, A = Bk.put W u ((W u).1, (W u).2 + Bk.mx (b.getD k default).am) := ⟨_, rfl⟩
      have eA : (A u).1 = (W u).1 ∧ (A u).2 = (W u).2 + Bk.mx (b.getD k default).am := by rw [hA, Bk.put_u]; exact ⟨rfl, rfl⟩
      rw [← eA.2] at dm hx
      rw [← eA.1] at hx
      have dq : -2 ≤ (A u).2.tdiv 1152921504606846976 ∧ (A u).2.tdiv 1152921504606846976 ≤ 2 := by omega
      obtain ⟨B, hB⟩ : ∃ B, B = Bk.put A u ((A u).1 + (A u).2.tdiv 1152921504606846976, (A u).2) := ⟨_, rfl⟩
      obtain ⟨C, hC⟩ : ∃ C, C = Bk.put A u ((A u).1, (A u).2.tmod 1152921504606846976) := ⟨_, rfl⟩
      obtain ⟨D, hD⟩ : ∃ D, D = Bk.put A u ((A u).1 + (A u).2.tdiv 1152921504606846976, (A u).2.tmod 1152921504606846976) := ⟨_, rfl⟩
      have eB : (B u).1 = (A u).1 + (A u).2.tdiv 1152921504606846976 ∧ (B u).2 = (A u).2 := by rw [hB, Bk.put_u]; exact ⟨rfl, rfl⟩
      have eC : (C u).1 = (A u).1 ∧ (C u).2 = (A u).2.tmod 1152921504606846976 := by rw [hC, Bk.put_u]; exact ⟨rfl, rfl⟩
      have pA := put_is W A u _ _ hA
      have pB := put_is A B u _ _ hB
      have pC := put_is A C u _ _ hC
      have pD := put_is B D u (B u).1 ((A u).2.tmod 1152921504606846976) (by rw [hD, eB.1, hB, Bk.put_2])
      have pE := put_is C D u ((A u).1 + (A u).2.tdiv 1152921504606846976) (C u).2 (by rw [hD, eC.2, hC, Bk.put_2])
      have hx : ∀ q, Bk.ws (Bk.up b) (k + 1) q = D q := fun q => by rw [hx, hD, hA, Bk.put_2]
      clear hA hB hC hD
      repeat' ((conv => whnf); first | (refine V.NDraw.each (by kernel_rfl) ?_) | (refine V.NWrap.ok (e := (W u).2 + Bk.mx (b.getD k default).am) (by omega) (by omega) ?_) | refine V.NCond.mk ?_ | refine V.NIf.not_ ?_ | refine V.NIf.dec_ ?_ | refine V.NIf.no (by omega) ?_ | refine V.NIf.yes (by omega) ?_ | refine V.NIf.mk (fun _ => ?_) (fun _ => ?_) | refine V.NWrap.ok (by omega) (by omega) ?_ | refine V.NWrap.u64 (by omega) (by omega) ?_ | refine V.NLt.mk (by omega) ?_ | refine V.NBoth.mk ?_ ?_ | refine V.NTF.yes (by omega) ?_ | refine V.NTF.no (by omega) ?_ | refine V.NTF.dec ?_ | refine V.NDraw.q (by exact rfl) (by kernel_rfl) ?_ | refine V.NApp.one (by first | omega | (simp; omega)) (by first | omega | (simp; omega)) ?_ | (refine NIdx.mk ⟨k, rfl, by omega, ?_⟩) | (refine NIdx.mk ⟨u, hu, by omega, ?_⟩) | (refine V.NCall.inl (f := 68) V.Tok V.mixed Try.func68 rfl Try.ntmps68 (by kernel_rfl) rfl ?_) | (refine NQuo.ok (by decide) (by omega) (by omega) ?_) | (refine NRem.mk (by decide) ?_) | (refine ⟨⟨fun q => [.int .i64 (A q).1, .int .i64 (A q).2], fun q hq => pA q, ?_⟩⟩) | (refine ⟨⟨fun q => [.int .i64 (B q).1, .int .i64 (B q).2], fun q hq => pB q, ?_⟩⟩) | (refine ⟨⟨fun q => [.int .i64 (C q).1, .int .i64 (C q).2], fun q hq => pC q, ?_⟩⟩) | (refine ⟨⟨fun q => [.int .i64 (D q).1, .int .i64 (D q).2], fun q hq => pD q, ?_⟩⟩) | (refine ⟨⟨fun q => [.int .i64 (D q).1, .int .i64 (D q).2], fun q hq => pE q, ?_⟩⟩) | (refine V.NDraw.any (by kernel_rfl) ?_) | fail)
      all_goals (conv => whnf)
      all_goals exact V.NBack.at_ (k + 1) [] (by omega) (by omega) (by repeat' (first | exact rfl | exact Iff.rfl | exact trivial | exact (fun _ _ => rfl) | exact (fun _ h => absurd h (Nat.not_lt_zero _)) | refine ⟨?_, ?_⟩ | exact Iff.rfl | exact congrArg (fun z => V.SV.one (V.At.val (Value.int .i64 z))) (by omega))) rfl ⟨⟨rfl, rfl, rfl, fun q _ => by show [_, _] = [_, _]; rw [hx q]⟩, trivial⟩ (by repeat' (first | exact rfl | exact Iff.rfl | exact trivial | exact (fun _ _ => rfl) | exact (fun _ h => absurd h (Nat.not_lt_zero _)) | refine ⟨?_, ?_⟩ | exact Iff.rfl | exact congrArg (fun z => V.SV.one (V.At.val (Value.int .i64 z))) (by omega))) (by repeat' (first | exact rfl | exact Iff.rfl | exact trivial | exact (fun _ _ => rfl) | exact (fun _ h => absurd h (Nat.not_lt_zero _)) | refine ⟨?_, ?_⟩ | exact Iff.rfl | exact congrArg (fun z => V.SV.one (V.At.val (Value.int .i64 z))) (by omega)))
    obtain rfl : k = b.length := by omega
    have wsp := fun u => Bk.ws_amt ua b.length u
    rw [← ul, List.take_length] at wsp
    rw [ul] at wsp
    have ws2 := fun u => (wsp u).1.trans (Bk.up_ts b u)
    generalize Bk.ws (Bk.up b) b.length = W at *
    repeat' ((conv => whnf); first | refine V.NCond.mk ?_ | refine V.NIf.not_ ?_ | refine V.NIf.dec_ ?_ | refine V.NIf.no (by omega) ?_ | refine V.NIf.yes (by omega) ?_ | refine V.NIf.mk (fun _ => ?_) (fun _ => ?_) | refine V.NWrap.ok (by omega) (by omega) ?_ | refine V.NWrap.u64 (by omega) (by omega) ?_ | refine V.NLt.mk (by omega) ?_ | refine V.NBoth.mk ?_ ?_ | refine V.NTF.yes (by omega) ?_ | refine V.NTF.no (by omega) ?_ | refine V.NTF.dec ?_ | refine V.NDraw.q (by exact rfl) (by kernel_rfl) ?_ | refine V.NApp.one (by first | omega | (simp; omega)) (by first | omega | (simp; omega)) ?_ | (refine NMake.mk ⟨21, 21, rfl, rfl, by omega, by omega, by first | omega | decide | (simp; done) | (simp; omega), ?_⟩) | (refine V.NDraw.any (by kernel_rfl) ?_) | fail)
    all_goals (conv => whnf)
    refine V.NLoop.auto (fun (i : Nat) => [(32, .one (.val (.int .i64 i))), (8, .one (.ref 3))]) (fun (i : Nat) => [(3, .row 3 1 21 (ga e1 (Bk.tl b i)))]) [] [] (fun (i : Nat) => 21 - i) (fun (i : Nat) => i ≤ 21 ∧ ∀ u, u < i → M.Amt (Bk.ts b u)) 0 ⟨Nat.zero_le _, fun u h => absurd h (Nat.not_lt_zero _)⟩ (by repeat' (first | exact rfl | exact Iff.rfl | exact trivial | exact (fun _ _ => rfl) | exact (fun _ h => absurd h (Nat.not_lt_zero _)) | refine ⟨?_, ?_⟩ | exact Iff.rfl | exact congrArg (fun z => V.SV.one (V.At.val (Value.int .i64 z))) (by omega))) (by (conv => whnf); exact ⟨⟨rfl, rfl, rfl, fun q hq => (Bk.tl_0 b q hq).symm⟩, trivial⟩) (fun _ => ⟨rfl, rfl⟩) ?_; (conv => whnf); refine ⟨⟨rfl, rfl⟩, ?_⟩
    rintro i ⟨hi, hJ⟩
    by_cases i1 : i < 21
    · obtain ⟨w1, w2, w3⟩ := wsp i
      have we := ws2 i
      have am : M.Amt (Bk.ts b i) ↔ -1152921504606846976 ≤ (W i).1 * 1152921504606846976 + (W i).2 ∧ (W i).1 * 1152921504606846976 + (W i).2 ≤ 1152921504606846976 := by rw [we]; exact Iff.rfl
      have w8 : ¬ M.Amt (Bk.ts b i) → Bk.tE b = 8 := fun h => x2 (by assumption) (Bk.tw_yes i1 h)
      have ckn := fun n => @M.chk_yes n
      have ckz := fun n (h : M.chk n = 0) => Classical.byContradiction fun (z : ¬ M.Amt n) => by rw [M.chk_no z] at h; omega
      unfold M.Amt at ckz
      have st : (Bk.tl b i).set i ((W i).1 * 1152921504606846976 + (W i).2) = Bk.tl b (i + 1) := by rw [we]; exact Bk.tl_set i1
      have tn := Bk.tl_len b i
      repeat' ((conv => whnf); first | refine V.NCond.mk ?_ | refine V.NIf.not_ ?_ | refine V.NIf.dec_ ?_ | refine V.NIf.no (by omega) ?_ | refine V.NIf.yes (by omega) ?_ | refine V.NIf.mk (fun _ => ?_) (fun _ => ?_) | refine V.NWrap.ok (by omega) (by omega) ?_ | refine V.NWrap.u64 (by omega) (by omega) ?_ | refine V.NLt.mk (by omega) ?_ | refine V.NBoth.mk ?_ ?_ | refine V.NTF.yes (by omega) ?_ | refine V.NTF.no (by omega) ?_ | refine V.NTF.dec ?_ | refine V.NDraw.q (by exact rfl) (by kernel_rfl) ?_ | refine V.NApp.one (by first | omega | (simp; omega)) (by first | omega | (simp; omega)) ?_ | (refine NIdx.mk ⟨i, rfl, by omega, ?_⟩) | (refine V.NCall.inl (f := 69) V.Tok V.mixed Try.func69 rfl Try.ntmps69 (by kernel_rfl) rfl ?_) | (first | refine V.Fn.k0 (v_check _) rfl ?_ | refine V.Fn.q0 (v_check _) rfl ?_ | refine V.Fn.a0 (v_check _) rfl ?_) | (refine NPut.is_ (en := e1) (l := Bk.tl b i) ((W i).1 * 1152921504606846976 + (W i).2) (Bk.tl b (i + 1)) st tn rfl ?_) | (refine V.NDraw.any (by kernel_rfl) ?_) | fail)
      all_goals (conv => whnf)
      · have e := w8 (fun h => by have := am.1 h; omega)
        rw [v0 (by omega), e]
        exact NRet.mk_ [some 4] rfl ⟨rfl, rfl, trivial⟩ ⟨⟨rfl, rfl, rfl, fun k hk => absurd hk (Nat.not_lt_zero _)⟩, trivial⟩
      · have e := w8 (fun h => by have := am.1 h; omega)
        rw [v0 (by omega), e]
        exact NRet.mk_ [some 4] rfl ⟨rfl, rfl, trivial⟩ ⟨⟨rfl, rfl, rfl, fun k hk => absurd hk (Nat.not_lt_zero _)⟩, trivial⟩
      · have hA := am.2 (ckz _ (by assumption))
        exact V.NBack.at_ (i + 1) [] ⟨by omega, fun u hu => (show u < i ∨ u = i by omega).elim (hJ u) (fun e => by rw [e]; exact hA)⟩ (by omega) (by repeat' (first | exact rfl | exact Iff.rfl | exact trivial | exact (fun _ _ => rfl) | exact (fun _ h => absurd h (Nat.not_lt_zero _)) | refine ⟨?_, ?_⟩ | exact Iff.rfl | exact congrArg (fun z => V.SV.one (V.At.val (Value.int .i64 z))) (by omega))) rfl ⟨⟨rfl, rfl, rfl, fun _ _ => rfl⟩, trivial⟩ (by repeat' (first | exact rfl | exact Iff.rfl | exact trivial | exact (fun _ _ => rfl) | exact (fun _ h => absurd h (Nat.not_lt_zero _)) | refine ⟨?_, ?_⟩ | exact Iff.rfl | exact congrArg (fun z => V.SV.one (V.At.val (Value.int .i64 z))) (by omega))) (by repeat' (first | exact rfl | exact Iff.rfl | exact trivial | exact (fun _ _ => rfl) | exact (fun _ h => absurd h (Nat.not_lt_zero _)) | refine ⟨?_, ?_⟩ | exact Iff.rfl | exact congrArg (fun z => V.SV.one (V.At.val (Value.int .i64 z))) (by omega)))
      · have e := w8 (fun h => absurd (ckn _ (am.1 h)) (by assumption))
        rw [v0 (by omega), e]
        exact NRet.mk_ [some 4] rfl ⟨rfl, rfl, trivial⟩ ⟨⟨rfl, rfl, rfl, fun k hk => absurd hk (Nat.not_lt_zero _)⟩, trivial⟩
    · obtain rfl : i = 21 := by omega
      have e0 := x3 (by assumption) (Bk.tw_no hJ)
      repeat' ((conv => whnf); first | refine V.NCond.mk ?_ | refine V.NIf.not_ ?_ | refine V.NIf.dec_ ?_ | refine V.NIf.no (by omega) ?_ | refine V.NIf.yes (by omega) ?_ | refine V.NIf.mk (fun _ => ?_) (fun _ => ?_) | refine V.NWrap.ok (by omega) (by omega) ?_ | refine V.NWrap.u64 (by omega) (by omega) ?_ | refine V.NLt.mk (by omega) ?_ | refine V.NBoth.mk ?_ ?_ | refine V.NTF.yes (by omega) ?_ | refine V.NTF.no (by omega) ?_ | refine V.NTF.dec ?_ | refine V.NDraw.q (by exact rfl) (by kernel_rfl) ?_ | refine V.NApp.one (by first | omega | (simp; omega)) (by first | omega | (simp; omega)) ?_ | (refine V.NDraw.any (by kernel_rfl) ?_) | fail)
      all_goals (conv => whnf)
      rw [v1 e0, e0, ← Bk.tl_end]
      exact NRet.mk_ [some 3] rfl ⟨rfl, rfl, trivial⟩ ⟨⟨rfl, rfl, (Bk.tl_len b 21).symm, fun k hk => rfl⟩, trivial⟩
  · have e := x1 (by assumption)
    rw [v0 (by omega), e]
    exact NRet.mk_ [some 2] rfl ⟨rfl, rfl, trivial⟩ ⟨⟨rfl, rfl, rfl, fun k hk => absurd hk (Nat.not_lt_zero _)⟩, trivial⟩
end Go.Proofs.Ytjjepkklaagmmaa

/- What the document's trial answers. -/
namespace Go.Proofs.Ytjjepkklaagmmaa
open Go Go.Sort Go.RowKit V
set_option maxRecDepth 100000
set_option linter.unusedVariables false
set_option linter.unusedSimpArgs false
set_option maxHeartbeats 4000000
theorem pos_snoc (l : List Int) (a : Int) : Bk.pos (l ++ [a]) = Bk.pos l ++ if 0 < a then [a] else [] := by
  unfold Bk.pos
  rw [List.filter_append]
  congr 1
  by_cases h : 0 < a
  · rw [if_pos h]; exact List.filter_cons_of_pos (decide_eq_true h)
  · rw [if_neg h]; exact List.filter_cons_of_neg (by rw [decide_eq_true_eq]; exact h)
theorem pos_len (l : List Int) : (Bk.pos l).length ≤ l.length := List.length_filter_le _ _
end Go.Proofs.Ytjjepkklaagmmaa

/- Plain facts on books: the ones that must be in any case. -/
namespace Go.Proofs.Ytjjepkklaagmmaa
set_option maxRecDepth 100000
set_option linter.unusedVariables false
def l0 : List Po := [⟨2, 0, 5⟩, ⟨1, 0, -8⟩, ⟨3, 0, 3⟩]
def b0 : List Po := [⟨1, 0, -8⟩, ⟨2, 0, 5⟩, ⟨3, 0, 3⟩]
def t0 : List Po := [⟨3, 0, -3⟩, ⟨1, 0, 8⟩, ⟨2, 0, -5⟩]
theorem bg1 : Bk.pE [] l0 = 0 := by kernel_rfl
theorem bg2 : Bk.pL [] l0 = b0 := by kernel_rfl
theorem bg3 : Bk.bE b0 1 0 = 0 ∧ Bk.bV b0 1 0 = -8 := ⟨by kernel_rfl, by kernel_rfl⟩
theorem bg4 : Bk.chk l0 = 0 ∧ Bk.tL l0 = t0 := ⟨by kernel_rfl, by kernel_rfl⟩
theorem bg5 : Bk.pE b0 t0 = 0 ∧ Bk.pL b0 t0 = [] := ⟨by kernel_rfl, by kernel_rfl⟩
theorem bg6 : Bk.tE b0 = 0 ∧ Bk.tV b0 = [8, 0, 0, 0, 0, 0, 0, 0, 0, 0, 0, 0, 0, 0, 0, 0, 0, 0, 0, 0, 0] := ⟨by kernel_rfl, by kernel_rfl⟩
theorem bg7 : Bk.pE b0 (l0.take 2) = 4 ∧ Bk.pL b0 (l0.take 2) = [] := ⟨by kernel_rfl, by kernel_rfl⟩
theorem bg8 : Bk.chk [] = 1 ∧ Bk.lines [] = 0 := ⟨by kernel_rfl, by kernel_rfl⟩
end Go.Proofs.Ytjjepkklaagmmaa

/- A call may be seen over fewer, or weaker, objects. -/
namespace Go.Proofs.Ytjjepkklaagmmaa.V
open Go Go.RowKit
set_option linter.unusedVariables false
theorem NCall.le {P : Program} {f : FuncId} {args : List SV} {obs : Obs} {nx : Nat} {K : SV → Obs → Nat → Prop} (obs' : Obs) (ho : ObsLe (sgm []) obs obs') (hb : obsB nx obs' = true) (h : NCall P f args obs' nx K) : NCall P f args obs nx K := by
  refine ⟨h.b, fun B ρ w xs hC hxs => ?_⟩
  have c := hC.head ho hb (injB_id nx)
  have e : cut nx (via (sgm []) ρ) = ρ := funext fun i => by
    unfold cut via
    split
    · rfl
    · exact (hC.new i (by omega)).symm
  rw [e] at c
  exact h.h B ρ w xs c hxs
theorem fnd_cons2 {α : Type} {i j : Nat} {x : α} {l : List (Nat × α)} {o : α} (h : fnd ((i, x) :: l) j = some o) : (i = j ∧ o = x) ∨ (i ≠ j ∧ fnd l j = some o) := by
  unfold fnd at h
  cases q : Nat.beq i j
  · rw [q] at h
    exact .inr ⟨fun e => by subst e; simp at q, h⟩
  · rw [q] at h
    exact .inl ⟨Nat.eq_of_beq_eq_true q, (Option.some.inj h).symm⟩
theorem Cls.lit {B nx : Nat} {ρ : Rho} {obs : Obs} {w : World} (hC : Cls B ρ obs nx w) {i : Nat} {t : TypeId} {s n : Nat} {rows : List (List At)} {g : Nat → List Value} (hf : fnd obs i = some (.lit t s rows)) (ht : ObTo id (.lit t s rows) (.arr s n g)) : Cls B ρ ((i, .arr s n g) :: obs) nx w := by
  have nf : ∀ b, foot ρ i (.arr s n g) = some b → foot ρ i (.lit t s rows) = some b := fun b hb => by
    unfold foot at hb ⊢
    cases n with
    | zero => cases hb
    | succ n => exact hb
  refine ⟨hC.le, fun j o h => ?_, fun j k o o' b h1 h2 hne hm hb => ?_, hC.new⟩
  · rcases fnd_cons2 h with ⟨rfl, rfl⟩ | ⟨_, h⟩
    · obtain ⟨v, e, hr⟩ := ObTo.ro ht (hC.sat _ _ hf)
      exact ⟨v, e, hr⟩
    · exact hC.sat j o h
  · rcases fnd_cons2 h1 with ⟨rfl, rfl⟩ | ⟨_, h1⟩
    · cases hm
    · rcases fnd_cons2 h2 with ⟨rfl, rfl⟩ | ⟨_, h2⟩
      · exact fun z => hC.apart j _ o _ b h1 hf hne hm hb (nf b z)
      · exact hC.apart j k o o' b h1 h2 hne hm hb
/-- a literal that is only read from here on -/
theorem NCall.lit_ {P : Program} {f : FuncId} {args : List SV} {obs : Obs} {nx : Nat} {K : SV → Obs → Nat → Prop} (i : Nat) {t : TypeId} {s n : Nat} {rows : List (List At)} {g : Nat → List Value} (hf : fnd obs i = some (.lit t s rows)) (ht : ObTo id (.lit t s rows) (.arr s n g)) (h : NCall P f args ((i, .arr s n g) :: obs) nx K) : NCall P f args obs nx K :=
  ⟨h.b, fun B ρ w xs hC hxs => h.h B ρ w xs (hC.lit hf ht) hxs⟩
end Go.Proofs.Ytjjepkklaagmmaa.V

/- What the book's law begins with: it is true. -/
namespace Go.Proofs.Ytjjepkklaagmmaa
open Go Go.Sort Go.RowKit V
set_option maxRecDepth 100000
set_option linter.unusedVariables false
set_option linter.unusedSimpArgs false
set_option maxHeartbeats 4000000
theorem cut2 (k : Nat) (hk : k < 2) : ga encP l0 (0 + k) = ga encP (l0.take 2) k := by rw [Nat.zero_add, ga_take hk (by decide)]
theorem v_bkBegun : V.Fn Try.prog 21 [] [] (.bool true) := by
  have p1 := v_bkPost [] l0 (by decide) (by decide)
  have p2 := v_bkBalance b0 1 0 (by decide)
  have p3 := v_bkTurn l0 (by decide)
  have p4 := v_bkPost b0 t0 (by decide) (by decide)
  have p5 := v_bkTrial b0 (by decide)
  have p6 := v_bkPost b0 (l0.take 2) (by decide) (by decide)
  have p7 := v_bkCheck [] (by decide)
  have p8 := v_bkLines [] (by decide)
  rw [bg1, bg2] at p1
  rw [bg3.1, bg3.2] at p2
  rw [bg4.1, bg4.2] at p3
  rw [bg5.1, bg5.2] at p4
  rw [bg6.1, bg6.2] at p5
  rw [bg7.1, bg7.2] at p6
  rw [bg8.1] at p7
  rw [bg8.2] at p8
  refine V.Fn.mk_ V.Tok V.mixed Try.func21 rfl Try.ntmps21 (by kernel_rfl) rfl rfl ?_
  have s1 := v_sameposts b0 b0 (by decide)
  have s2 := v_sameposts t0 t0 (by decide)
  rw [show decide (b0 = b0) = true from decide_eq_true rfl] at s1
  rw [show decide (t0 = t0) = true from decide_eq_true rfl] at s2
  repeat' ((conv => whnf); first | (refine V.NIf.yes ?_ ?_; · (decide; done)) | (refine V.NIf.no ?_ ?_; · (decide; done)) | refine V.NCond.mk ?_ | refine V.NIf.not_ ?_ | refine V.NIf.dec_ ?_ | refine V.NIf.no (by omega) ?_ | refine V.NIf.yes (by omega) ?_ | refine V.NIf.mk (fun _ => ?_) (fun _ => ?_) | refine V.NWrap.ok (by omega) (by omega) ?_ | refine V.NWrap.u64 (by omega) (by omega) ?_ | refine V.NLt.mk (by omega) ?_ | refine V.NBoth.mk ?_ ?_ | refine V.NTF.yes (by omega) ?_ | refine V.NTF.no (by omega) ?_ | refine V.NTF.dec ?_ | refine V.NDraw.q (by exact rfl) (by kernel_rfl) ?_ | refine V.NApp.one (by first | omega | (simp; omega)) (by first | omega | (simp; omega)) ?_ | (refine NCall.nil_ 0 3 rfl ?_; refine NCall.lit_ (n := 3) (g := ga encP l0) 0 rfl (by repeat' (first | exact rfl | exact Iff.rfl | exact trivial | exact (fun _ _ => rfl) | exact (fun _ h => absurd h (Nat.not_lt_zero _)) | refine ⟨?_, ?_⟩ | exact Iff.rfl | exact congrArg (fun z => V.SV.one (V.At.val (Value.int .i64 z))) (by omega))) ?_) | ((first | refine V.FnR.k_ (p1) [1, 0] rfl ?_ ?_ | refine V.FnR.a_ (p1) [1, 0] rfl ?_ ?_); · ((repeat' (first | exact rfl | exact Iff.rfl | exact trivial | exact (fun _ _ => rfl) | exact (fun _ h => absurd h (Nat.not_lt_zero _)) | refine ⟨?_, ?_⟩ | exact Iff.rfl | exact congrArg (fun z => V.SV.one (V.At.val (Value.int .i64 z))) (by omega))); done)) | ((first | refine V.Fn.k (p2) [2] rfl ?_ ?_ | refine V.Fn.q (p2) [2] rfl ?_ ?_ | refine V.Fn.a (p2) [2] rfl ?_ ?_); · ((repeat' (first | exact rfl | exact Iff.rfl | exact trivial | exact (fun _ _ => rfl) | exact (fun _ h => absurd h (Nat.not_lt_zero _)) | refine ⟨?_, ?_⟩ | exact Iff.rfl | exact congrArg (fun z => V.SV.one (V.At.val (Value.int .i64 z))) (by omega))); done)) | ((first | refine V.FnR.k_ (p3) [0] rfl ?_ ?_ | refine V.FnR.a_ (p3) [0] rfl ?_ ?_); · ((repeat' (first | exact rfl | exact Iff.rfl | exact trivial | exact (fun _ _ => rfl) | exact (fun _ h => absurd h (Nat.not_lt_zero _)) | refine ⟨?_, ?_⟩ | exact Iff.rfl | exact congrArg (fun z => V.SV.one (V.At.val (Value.int .i64 z))) (by omega))); done)) | ((first | refine V.FnR.k_ (p4) [2, 3] rfl ?_ ?_ | refine V.FnR.a_ (p4) [2, 3] rfl ?_ ?_); · ((repeat' (first | exact rfl | exact Iff.rfl | exact trivial | exact (fun _ _ => rfl) | exact (fun _ h => absurd h (Nat.not_lt_zero _)) | refine ⟨?_, ?_⟩ | exact Iff.rfl | exact congrArg (fun z => V.SV.one (V.At.val (Value.int .i64 z))) (by omega))); done)) | ((first | refine V.FnR.k_ (p5) [2] rfl ?_ ?_ | refine V.FnR.a_ (p5) [2] rfl ?_ ?_); · ((repeat' (first | exact rfl | exact Iff.rfl | exact trivial | exact (fun _ _ => rfl) | exact (fun _ h => absurd h (Nat.not_lt_zero _)) | refine ⟨?_, ?_⟩ | exact Iff.rfl | exact congrArg (fun z => V.SV.one (V.At.val (Value.int .i64 z))) (by omega))); done)) | (refine NCut.mk ⟨0, 2, rfl, rfl, by decide, by decide, ?_⟩) | (refine NIdx.mk ⟨0, rfl, by decide, ?_⟩) | (refine V.NLt.mk (by decide) ?_) | ((refine V.FnR.k_ p6 [2, 6] rfl ?_ ?_); · exact ⟨⟨rfl, rfl, fun k hk => rfl⟩, ⟨rfl, rfl, fun k hk => cut2 k hk⟩, trivial⟩) | (refine NCall.nil_ 0 3 rfl ?_) | ((first | refine V.Fn.k (p7) [10] rfl ?_ ?_ | refine V.Fn.q (p7) [10] rfl ?_ ?_ | refine V.Fn.a (p7) [10] rfl ?_ ?_); · ((repeat' (first | exact rfl | exact Iff.rfl | exact trivial | exact (fun _ _ => rfl) | exact (fun _ h => absurd h (Nat.not_lt_zero _)) | refine ⟨?_, ?_⟩ | exact Iff.rfl | exact congrArg (fun z => V.SV.one (V.At.val (Value.int .i64 z))) (by omega))); done)) | ((first | refine V.Fn.k (p8) [11] rfl ?_ ?_ | refine V.Fn.q (p8) [11] rfl ?_ ?_ | refine V.Fn.a (p8) [11] rfl ?_ ?_); · ((repeat' (first | exact rfl | exact Iff.rfl | exact trivial | exact (fun _ _ => rfl) | exact (fun _ h => absurd h (Nat.not_lt_zero _)) | refine ⟨?_, ?_⟩ | exact Iff.rfl | exact congrArg (fun z => V.SV.one (V.At.val (Value.int .i64 z))) (by omega))); done)) | ((first | refine V.Fn.k (s1) [2, 8] rfl ?_ ?_ | refine V.Fn.q (s1) [2, 8] rfl ?_ ?_ | refine V.Fn.a (s1) [2, 8] rfl ?_ ?_); · ((repeat' (first | exact rfl | exact Iff.rfl | exact trivial | exact (fun _ _ => rfl) | exact (fun _ h => absurd h (Nat.not_lt_zero _)) | refine ⟨?_, ?_⟩ | exact Iff.rfl | exact congrArg (fun z => V.SV.one (V.At.val (Value.int .i64 z))) (by omega))); done)) | ((first | refine V.Fn.k (s2) [3, 9] rfl ?_ ?_ | refine V.Fn.q (s2) [3, 9] rfl ?_ ?_ | refine V.Fn.a (s2) [3, 9] rfl ?_ ?_); · ((repeat' (first | exact rfl | exact Iff.rfl | exact trivial | exact (fun _ _ => rfl) | exact (fun _ h => absurd h (Nat.not_lt_zero _)) | refine ⟨?_, ?_⟩ | exact Iff.rfl | exact congrArg (fun z => V.SV.one (V.At.val (Value.int .i64 z))) (by omega))); done)) | (refine V.NDraw.any (by kernel_rfl) ?_) | fail)
  all_goals (conv => whnf)
  exact ⟨true, rfl, iff_of_true rfl rfl⟩
end Go.Proofs.Ytjjepkklaagmmaa

/- Plain facts on books: what is posted comes out even. -/
namespace Go.Proofs.Ytjjepkklaagmmaa
set_option linter.unusedVariables false
set_option linter.unusedSimpArgs false
namespace Bk
def kk (a u : Int) : Nat := (21 * a + u).toNat
theorem kk_r {a u : Int} (k : Kn a u) : kk a u < 2121 ∧ ((kk a u : Nat) : Int) = 21 * a + u := by
  obtain ⟨h1, h2⟩ := k
  unfold kk
  omega
theorem kk_key {a u : Int} (k : Kn a u) {p : Po} (h : Right p) : key p = kk a u ↔ p.ac = a ∧ p.ut = u := by
  obtain ⟨⟨h1, h2⟩, _⟩ := h
  obtain ⟨h3, h4⟩ := k
  unfold kk key
  omega
theorem amAt_tot {b : List Po} (h : Lines b) {a u : Int} (k : Kn a u) : amAt b a u = tot b (kk a u) := by
  unfold amAt
  rcases ixf_cases (at? a u) b with ⟨e, al⟩ | ⟨i, e, hi, hp, _⟩
  · rw [e, if_neg (by decide), tot_none fun p hp q => ?_]
    have := al p hp
    unfold at? at this
    rw [decide_eq_false_iff_not] at this
    exact this ((kk_key k (h.r p hp)).1 q)
  · unfold at? at hp
    rw [decide_eq_true_eq] at hp
    rw [e, if_pos (by omega), Int.toNat_natCast, ← (kk_key k (h.r _ (getD_mem hi))).2 hp, tot_in (ne_of_lt (lines_srt h)) (getD_mem hi)]
theorem tot_amt {b : List Po} (h : Lines b) (k : Nat) : M.Amt (tot b k) := by
  by_cases q : ∃ p ∈ b, key p = k
  · obtain ⟨p, hp, rfl⟩ := q
    rw [tot_in (ne_of_lt (lines_srt h)) hp]
    exact (h.r p hp).2.1
  · rw [tot_none fun p hp e => q ⟨p, hp, e⟩]
    unfold M.Amt
    omega
structure Posted (b l : List Po) : Prop where
  bo : Lines b
  be : even b = true
  n : 0 < l.length ∧ l.length ≤ 60
  r : ∀ p ∈ l, Right p
  le : even l = true
  a : ∀ k, k < 2121 → M.Amt (tot (b ++ l) k)
  m : (out (tot (b ++ l)) 2121).length ≤ 400
theorem pE_0 {b l : List Po} : pE b l = 0 ↔ Posted b l := by
  constructor
  · intro h
    rcases pE_cases b l with ⟨a, e⟩ | ⟨_, a, e⟩ | ⟨h1, h2, e⟩
    · rw [h] at e; exact absurd e.symm a
    · rw [h] at e; exact absurd e.symm a
    · obtain ⟨m1, m2⟩ := mE_0 (e.symm.trans h)
      obtain ⟨l1, l2⟩ := lines_0 h1
      obtain ⟨c1, c2, c3⟩ := chk_0 h2
      exact ⟨l1, l2, c1, c2, c3, m1, m2⟩
  · rintro ⟨h1, h2, h3, h4, h5, h6, h7⟩
    rcases pE_cases b l with ⟨a, e⟩ | ⟨_, a, e⟩ | ⟨_, _, e⟩
    · exact absurd (lines_is h1 h2) a
    · exact absurd (chk_is h3 h4 h5) a
    · rw [e, mE_is h6, if_neg (by omega)]
theorem po_pL {b l : List Po} (h : Posted b l) : pL b l = out (tot (b ++ l)) 2121 := if_pos (pE_0.2 h)
theorem po_lines {b l : List Po} (h : Posted b l) : Lines (Bk.pL b l) := by
  rw [po_pL h]
  exact out_lines h.a h.m
theorem po_tot {b l : List Po} (h : Posted b l) {k : Nat} (hk : k < 2121) : tot (Bk.pL b l) k = Bk.tot b k + Bk.tot l k := by
  rw [po_pL h, tot_out hk, tot_app]
theorem po_even {b l : List Po} (h : Posted b l) : even (Bk.pL b l) = true := by
  rw [even_su (po_lines h).r]
  intro u hu
  have e1 := (even_su h.bo.r).1 h.be u hu
  have e2 := (even_su h.r).1 h.le u hu
  rw [su_congr (T := fun k => Bk.tot b k + Bk.tot l k) fun j hj => po_tot h (by omega), su_add, e1, e2]
  rfl
theorem po_ok {b l : List Po} (h : Posted b l) : Bk.lines (Bk.pL b l) = 0 := lines_is (po_lines h) (po_even h)
theorem bE_is {b : List Po} (h : Bk.lines b = 0) (a u : Int) : bE b a u = if Kn a u then 0 else 3 := if_neg (fun z => z h)
theorem bV_is {b : List Po} (h : Lines b) (e : even b = true) {a u : Int} (k : Kn a u) : bV b a u = tot b (kk a u) := by
  unfold bV
  rw [bE_is (lines_is h e), if_pos k, if_pos rfl, amAt_tot h k]
/-- two books of the same totals are one -/
theorem book_ext {b c : List Po} (hb : Lines b) (hc : Lines c) (h : ∀ k, k < 2121 → tot b k = tot c k) : b = c := by
  rw [is_out hb, is_out hc]
  have : ∀ n, n ≤ 2121 → out (tot b) n = out (tot c) n := fun n => by
    induction n with
    | zero => intro _; rfl
    | succ n ih => intro hn; rw [out_succ, out_succ, ih (by omega), h n (by omega)]
  exact this 2121 (Nat.le_refl _)
end Bk
end Go.Proofs.Ytjjepkklaagmmaa

/- Plain facts on money for papers: what is paid can be posted. -/
namespace Go.Proofs.Ytjjepkklaagmmaa
set_option linter.unusedVariables false
set_option linter.unusedSimpArgs false
namespace Bk
theorem one_some (T : Nat → Int) (k : Nat) : (one T k).isSome = decide (T k ≠ 0) := by
  unfold one
  by_cases h : T k = 0
  · rw [if_pos h, decide_eq_false (fun z => z h)]; rfl
  · rw [if_neg h, decide_eq_true h]; rfl
theorem out_cnt (T : Nat → Int) : ∀ n, (out T n).length = (List.range n).countP fun k => decide (T k ≠ 0)
  | 0 => rfl
  | n + 1 => by
    rw [out_succ, List.length_append, out_cnt T n, List.range_succ, List.countP_append]
    congr 1
    by_cases h : T n = 0
    · rw [if_pos h]; simp [h]
    · rw [if_neg h]; simp [h]
theorem cnt_or {p q r : Nat → Bool} (h : ∀ k, p k = true → q k = true ∨ r k = true) : ∀ l : List Nat, l.countP p ≤ l.countP q + l.countP r
  | [] => by simp
  | k :: l => by
    have ih := cnt_or h l
    simp only [List.countP_cons]
    by_cases hp : p k = true
    · rcases h k hp with h1 | h1
      · rw [if_pos hp, if_pos h1]; split <;> omega
      · rw [if_pos hp, if_pos h1]; split <;> omega
    · rw [if_neg hp]; omega
theorem cnt_one (a : Nat) : ∀ n, (List.range n).countP (fun k => decide (k = a)) ≤ 1
  | 0 => by simp
  | n + 1 => by
    rw [List.range_succ, List.countP_append]
    have ih := cnt_one a n
    by_cases h : n = a
    · have z : (List.range n).countP (fun k => decide (k = a)) = 0 := List.countP_eq_zero.2 fun k hk => by have := List.mem_range.1 hk; simp; omega
      rw [z]; simp [h]
    · simp [h]; omega
theorem out_few : ∀ (l : List Po) (n : Nat), (out (tot l) n).length ≤ l.length
  | [], n => by
    rw [out_cnt, List.countP_eq_zero.2 fun k hk => by simp [tot_none (l := []) (k := k) (fun p hp => by simp at hp)]]
    simp
  | p :: r, n => by
    have ih := out_few r n
    rw [out_cnt] at *
    have e : ∀ k, tot (p :: r) k = tot [p] k + tot r k := fun k => tot_app [p] r k
    have c := cnt_or (p := fun k => decide (tot (p :: r) k ≠ 0)) (q := fun k => decide (tot r k ≠ 0)) (r := fun k => decide (k = key p)) (fun k hk => by
      rw [decide_eq_true_eq] at hk
      by_cases q : k = key p
      · exact .inr (decide_eq_true q)
      · refine .inl (decide_eq_true fun z => hk ?_)
        rw [e, z, tot_none fun x hx => by rw [List.mem_singleton.1 hx]; exact fun w => q w.symm]
        rfl) (List.range n)
    have o := cnt_one (key p) n
    rw [List.length_cons]
    omega
theorem lines_nil : lines [] = 0 := by decide
theorem posted_nil {l : List Po} (n : 0 < l.length ∧ l.length ≤ 60) (r : ∀ p ∈ l, Right p) (e : even l = true) (a : ∀ k, k < 2121 → M.Amt (tot l k)) : Posted [] l := by
  obtain ⟨h1, h2⟩ := lines_0 lines_nil
  exact ⟨h1, h2, n, r, e, a, Nat.le_trans (out_few _ _) (by simpa using Nat.le_trans n.2 (by decide))⟩
end Bk
namespace Cp
theorem mvd_right {a b c d : Int} (ha : 0 ≤ a ∧ a ≤ 100) (hb : 0 ≤ b ∧ b ≤ 100) (hc : 0 ≤ c ∧ c ≤ 20) (hd : 1 ≤ d ∧ d ≤ 1152921504606846976) : ∀ p ∈ mvd a b c d, Bk.Right p := fun p hp => by
  unfold mvd at hp
  simp only [List.mem_cons, List.not_mem_nil, or_false] at hp
  rcases hp with rfl | rfl
  · exact ⟨⟨ha, hc⟩, by unfold M.Amt; dsimp only; omega, by dsimp only; omega⟩
  · exact ⟨⟨hb, hc⟩, by unfold M.Amt; dsimp only; omega, by dsimp only; omega⟩
theorem mvd_even {a b c d : Int} : Bk.even (mvd a b c d) = true := (Bk.even_iff _).2 fun u hu => by
  unfold mvd Bk.amu
  by_cases h : c = (u : Int)
  · simp [h, M.sum]
    omega
  · simp [h, M.sum]
theorem mvd_tot {a b c d : Int} (ha : 0 ≤ a ∧ a ≤ 100) (hb : 0 ≤ b ∧ b ≤ 100) (hc : 0 ≤ c ∧ c ≤ 20) (hd : 1 ≤ d ∧ d ≤ 1152921504606846976) (hab : a ≠ b) : Bk.tot (mvd a b c d) (Bk.kk a c) = -d ∧ Bk.tot (mvd a b c d) (Bk.kk b c) = d ∧ ∀ k, M.Amt (Bk.tot (mvd a b c d) k) := by
  have r := mvd_right ha hb hc hd
  have r1 := r ⟨a, c, -d⟩ (by simp [mvd])
  have r2 := r ⟨b, c, d⟩ (by simp [mvd])
  have k1 : Bk.key ⟨a, c, -d⟩ = Bk.kk a c := (Bk.kk_key ⟨ha, hc⟩ r1).2 ⟨rfl, rfl⟩
  have k2 : Bk.key ⟨b, c, d⟩ = Bk.kk b c := (Bk.kk_key ⟨hb, hc⟩ r2).2 ⟨rfl, rfl⟩
  have ne : Bk.key ⟨a, c, -d⟩ ≠ Bk.key ⟨b, c, d⟩ := fun z => hab ((Bk.key_eq r1 r2).1 z).1
  have pw : (mvd a b c d).Pairwise fun p q => Bk.key p ≠ Bk.key q := by
    unfold mvd
    simp [ne]
  have t1 := Bk.tot_in pw (p := ⟨a, c, -d⟩) (by simp [mvd])
  have t2 := Bk.tot_in pw (p := ⟨b, c, d⟩) (by simp [mvd])
  rw [k1] at t1
  rw [k2] at t2
  refine ⟨t1, t2, fun k => ?_⟩
  by_cases e1 : k = Bk.kk a c
  · rw [e1, t1]; unfold M.Amt; dsimp only; omega
  · by_cases e2 : k = Bk.kk b c
    · rw [e2, t2]; unfold M.Amt; dsimp only; omega
    · rw [Bk.tot_none fun p hp => ?_]
      · unfold M.Amt; omega
      · unfold mvd at hp
        simp only [List.mem_cons, List.not_mem_nil, or_false] at hp
        rcases hp with rfl | rfl
        · rw [k1]; exact fun z => e1 z.symm
        · rw [k2]; exact fun z => e2 z.symm
theorem mvd_posted {a b c d : Int} (ha : 0 ≤ a ∧ a ≤ 100) (hb : 0 ≤ b ∧ b ≤ 100) (hc : 0 ≤ c ∧ c ≤ 20) (hd : 1 ≤ d ∧ d ≤ 1152921504606846976) (hab : a ≠ b) : Bk.Posted [] (mvd a b c d) :=
  Bk.posted_nil ⟨Nat.succ_pos _, (by decide : (2 : Nat) ≤ 60)⟩ (mvd_right ha hb hc hd) mvd_even fun k _ => (mvd_tot ha hb hc hd hab).2.2 k
theorem tot_nil (k : Nat) : Bk.tot [] k = 0 := Bk.tot_none fun p hp => by simp at hp
/-- what a balance shows behind it -/
theorem mvd_bal {a b c d : Int} (ha : 0 ≤ a ∧ a ≤ 100) (hb : 0 ≤ b ∧ b ≤ 100) (hc : 0 ≤ c ∧ c ≤ 20) (hd : 1 ≤ d ∧ d ≤ 1152921504606846976) (hab : a ≠ b) : Bk.pE [] (mvd a b c d) = 0 ∧ Bk.bE (Bk.pL [] (mvd a b c d)) a c = 0 ∧ Bk.bE (Bk.pL [] (mvd a b c d)) b c = 0 ∧ Bk.bV (Bk.pL [] (mvd a b c d)) a c = -d ∧ Bk.bV (Bk.pL [] (mvd a b c d)) b c = d := by
  have P := mvd_posted ha hb hc hd hab
  obtain ⟨t1, t2, _⟩ := mvd_tot ha hb hc hd hab
  have lp := Bk.po_ok P
  have ln := Bk.po_lines P
  have le := Bk.po_even P
  have ka : Bk.Kn a c := ⟨ha, hc⟩
  have kb : Bk.Kn b c := ⟨hb, hc⟩
  refine ⟨Bk.pE_0.2 P, ?_, ?_, ?_, ?_⟩
  · rw [Bk.bE_is lp, if_pos ka]
  · rw [Bk.bE_is lp, if_pos kb]
  · rw [Bk.bV_is ln le ka, Bk.po_tot P (Bk.kk_r ka).1, tot_nil, t1]; omega
  · rw [Bk.bV_is ln le kb, Bk.po_tot P (Bk.kk_r kb).1, tot_nil, t2]; omega
theorem paid {f : Fl} (h : F.Ok f) : F.chk (F.addPd f (F.left f)) = 0 ∧ F.left (F.addPd f (F.left f)) = 0 ∧ F.opn (F.addPd f (F.left f)) = 0 := by
  have b := F.ok_bounds h
  obtain ⟨k, n, ⟨⟨p1, p2⟩, ⟨p3, p4⟩, p5, p6⟩, d⟩ := id h
  have l : F.left (F.addPd f (F.left f)) = 0 := by
    show f.un - f.de - f.bo - (f.pd + F.left f) = 0
    unfold F.left; omega
  have e : F.left f = f.un - f.de - f.bo - f.pd := rfl
  have c : F.chk (F.addPd f (F.left f)) = 0 := F.chk_of ⟨k, n, ⟨⟨p1, p2⟩, ⟨p3, p4⟩, by show 0 ≤ f.pd + F.left f; omega, by show f.pd + F.left f ≤ f.un; omega⟩, by show f.de + f.bo + (f.pd + F.left f) ≤ f.un; omega⟩
  exact ⟨c, l, (F.opn_yes c).trans l⟩
end Cp
end Go.Proofs.Ytjjepkklaagmmaa
