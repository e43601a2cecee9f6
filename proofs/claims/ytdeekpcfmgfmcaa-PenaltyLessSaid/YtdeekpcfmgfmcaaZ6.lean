/- Shared texts, one behind the other: VPen4, VAgeB, LotPl, VSame, VPenB, PenPl2, VPenC, VOpenI, VOpenC, VOpenF, VOpenTm, PenPl3, VNil -/
import Derived.Test.YtdeekpcfmgfmcaaZ1
import Derived.Test.YtdeekpcfmgfmcaaZ2
import Derived.Test.YtdeekpcfmgfmcaaZ3
import Derived.Test.YtdeekpcfmgfmcaaZ4
import Derived.Test.YtdeekpcfmgfmcaaZ5

/- What all pay in sum: the walks. -/
namespace Go.Proofs.Ytdeekpcfmgfmcaa
open Go Go.RowKit V
set_option maxRecDepth 100000
set_option linter.unusedVariables false
namespace Pn
/-- postings of those that do not stand at nothing -/
def po (p : Nat) (n : Int) : List Po := if n = 0 then [] else [⟨p, 0, n⟩]
def pos (s : List Int) (k : Nat) : List Po := (List.range k).flatMap fun p => po p (s.getD p default)
theorem pos_snoc (s : List Int) (k : Nat) : pos s (k + 1) = pos s k ++ po k (s.getD k default) := by
  unfold pos; rw [List.range_succ, List.flatMap_append]; simp
theorem pos_len (s : List Int) : ∀ k, (pos s k).length ≤ k
  | 0 => by simp [pos]
  | k + 1 => by
    have h := pos_len s k
    rw [pos_snoc, List.length_append]
    have : (po k (s.getD k default)).length ≤ 1 := by unfold po; split <;> simp
    omega
theorem po_yes {p : Nat} {n : Int} (h : n ≠ 0) : po p n = [⟨p, 0, n⟩] := if_neg h
theorem po_no {p : Nat} {n : Int} (h : n = 0) : po p n = [] := if_pos h
def suE (l : List Du) : Int := if Nt.stE l ≠ 0 then Nt.stE l else if (pos (Nt.st l) 31).length = 0 then 5 else 0
def suL (l : List Du) : List Po := if suE l = 0 then pos (Nt.st l) 31 else []
end Pn
theorem v_psum (l : List Du) (hn : l.length ≤ 9223372036854775807) : V.FnR Try.prog 22 [.arr 3 l.length (ga encD l)] [.one (.ref 0)] (.tup [.one (.ref 1), .one (.val (.int .i64 (Pn.suE l)))]) [.row 77 3 (Pn.suL l).length (ga encP (Pn.suL l))] := by
  refine V.FnR.mk_ V.Tok V.mixed Try.func22 rfl Try.ntmps22 (by kernel_rfl) rfl rfl rfl rfl ?_
  repeat' ((conv => whnf); first | refine V.NCond.mk ?_ | refine V.NIf.not_ ?_ | refine V.NIf.dec_ ?_ | refine V.NIf.no (by omega) ?_ | refine V.NIf.yes (by omega) ?_ | refine V.NIf.mk (fun _ => ?_) (fun _ => ?_) | refine V.NWrap.ok (by omega) (by omega) ?_ | refine V.NWrap.u64 (by omega) (by omega) ?_ | refine V.NLt.mk (by omega) ?_ | refine V.NBoth.mk ?_ ?_ | refine V.NTF.yes (by omega) ?_ | refine V.NTF.no (by omega) ?_ | refine V.NTF.dec ?_ | refine V.NDraw.q (by exact rfl) (by kernel_rfl) ?_ | refine V.NApp.one (by first | omega | (simp; omega)) (by first | omega | (simp; omega)) ?_ | ((first | refine V.FnR.k_ (v_stand l hn) [0] rfl ?_ ?_ | refine V.FnR.a_ (v_stand l hn) [0] rfl ?_ ?_); · ((repeat' (first | exact rfl | exact Iff.rfl | exact trivial | exact (fun _ _ => rfl) | exact (fun _ h => absurd h (Nat.not_lt_zero _)) | refine ⟨?_, ?_⟩ | exact Iff.rfl | exact congrArg (fun z => V.SV.one (V.At.val (Value.int .i64 z))) (by omega))); done)) | (refine V.NDraw.any (by kernel_rfl) ?_) | fail)
  all_goals (conv => whnf)
  rotate_left
  · have e : Pn.suE l = Nt.stE l := if_pos (by assumption)
    rw [show Pn.suL l = [] from if_neg (by rw [e]; assumption), e]
    (first | (refine NRet.mk_ [some 0] rfl ?_ ?_; (· ((repeat' (first | exact rfl | exact trivial | refine ⟨?_, ?_⟩)); done)); (· (refine ⟨?_, trivial⟩; refine ⟨rfl, rfl, rfl, ?_⟩; exact fun k hk => absurd hk (Nat.not_lt_zero _); done))) | (refine NRet.mk_ [some 1] rfl ?_ ?_; (· ((repeat' (first | exact rfl | exact trivial | refine ⟨?_, ?_⟩)); done)); (· (refine ⟨?_, trivial⟩; refine ⟨rfl, rfl, rfl, ?_⟩; exact fun k hk => absurd hk (Nat.not_lt_zero _); done))) | (refine NRet.mk_ [some 2] rfl ?_ ?_; (· ((repeat' (first | exact rfl | exact trivial | refine ⟨?_, ?_⟩)); done)); (· (refine ⟨?_, trivial⟩; refine ⟨rfl, rfl, rfl, ?_⟩; exact fun k hk => absurd hk (Nat.not_lt_zero _); done))) | (refine NRet.mk_ [some 3] rfl ?_ ?_; (· ((repeat' (first | exact rfl | exact trivial | refine ⟨?_, ?_⟩)); done)); (· (refine ⟨?_, trivial⟩; refine ⟨rfl, rfl, rfl, ?_⟩; exact fun k hk => absurd hk (Nat.not_lt_zero _); done))) | (refine NRet.mk_ [some 4] rfl ?_ ?_; (· ((repeat' (first | exact rfl | exact trivial | refine ⟨?_, ?_⟩)); done)); (· (refine ⟨?_, trivial⟩; refine ⟨rfl, rfl, rfl, ?_⟩; exact fun k hk => absurd hk (Nat.not_lt_zero _); done))) | (refine NRet.mk_ [some 5] rfl ?_ ?_; (· ((repeat' (first | exact rfl | exact trivial | refine ⟨?_, ?_⟩)); done)); (· (refine ⟨?_, trivial⟩; refine ⟨rfl, rfl, rfl, ?_⟩; exact fun k hk => absurd hk (Nat.not_lt_zero _); done))) | (refine NRet.mk_ [some 6] rfl ?_ ?_; (· ((repeat' (first | exact rfl | exact trivial | refine ⟨?_, ?_⟩)); done)); (· (refine ⟨?_, trivial⟩; refine ⟨rfl, rfl, rfl, ?_⟩; exact fun k hk => absurd hk (Nat.not_lt_zero _); done))) | (refine NRet.mk_ [some 7] rfl ?_ ?_; (· ((repeat' (first | exact rfl | exact trivial | refine ⟨?_, ?_⟩)); done)); (· (refine ⟨?_, trivial⟩; refine ⟨rfl, rfl, rfl, ?_⟩; exact fun k hk => absurd hk (Nat.not_lt_zero _); done))) | (refine NRet.mk_ [some 8] rfl ?_ ?_; (· ((repeat' (first | exact rfl | exact trivial | refine ⟨?_, ?_⟩)); done)); (· (refine ⟨?_, trivial⟩; refine ⟨rfl, rfl, rfl, ?_⟩; exact fun k hk => absurd hk (Nat.not_lt_zero _); done))) | (refine NRet.mk_ [some 9] rfl ?_ ?_; (· ((repeat' (first | exact rfl | exact trivial | refine ⟨?_, ?_⟩)); done)); (· (refine ⟨?_, trivial⟩; refine ⟨rfl, rfl, rfl, ?_⟩; exact fun k hk => absurd hk (Nat.not_lt_zero _); done))) | (refine NRet.mk_ [some 10] rfl ?_ ?_; (· ((repeat' (first | exact rfl | exact trivial | refine ⟨?_, ?_⟩)); done)); (· (refine ⟨?_, trivial⟩; refine ⟨rfl, rfl, rfl, ?_⟩; exact fun k hk => absurd hk (Nat.not_lt_zero _); done))) | (refine NRet.mk_ [some 11] rfl ?_ ?_; (· ((repeat' (first | exact rfl | exact trivial | refine ⟨?_, ?_⟩)); done)); (· (refine ⟨?_, trivial⟩; refine ⟨rfl, rfl, rfl, ?_⟩; exact fun k hk => absurd hk (Nat.not_lt_zero _); done))) | (refine NRet.mk_ [some 12] rfl ?_ ?_; (· ((repeat' (first | exact rfl | exact trivial | refine ⟨?_, ?_⟩)); done)); (· (refine ⟨?_, trivial⟩; refine ⟨rfl, rfl, rfl, ?_⟩; exact fun k hk => absurd hk (Nat.not_lt_zero _); done))) | (refine NRet.mk_ [some 13] rfl ?_ ?_; (· ((repeat' (first | exact rfl | exact trivial | refine ⟨?_, ?_⟩)); done)); (· (refine ⟨?_, trivial⟩; refine ⟨rfl, rfl, rfl, ?_⟩; exact fun k hk => absurd hk (Nat.not_lt_zero _); done))) | (refine NRet.mk_ [some 14] rfl ?_ ?_; (· ((repeat' (first | exact rfl | exact trivial | refine ⟨?_, ?_⟩)); done)); (· (refine ⟨?_, trivial⟩; refine ⟨rfl, rfl, rfl, ?_⟩; exact fun k hk => absurd hk (Nat.not_lt_zero _); done))) | (refine NRet.mk_ [some 15] rfl ?_ ?_; (· ((repeat' (first | exact rfl | exact trivial | refine ⟨?_, ?_⟩)); done)); (· (refine ⟨?_, trivial⟩; refine ⟨rfl, rfl, rfl, ?_⟩; exact fun k hk => absurd hk (Nat.not_lt_zero _); done))) | (refine NRet.mk_ [some 16] rfl ?_ ?_; (· ((repeat' (first | exact rfl | exact trivial | refine ⟨?_, ?_⟩)); done)); (· (refine ⟨?_, trivial⟩; refine ⟨rfl, rfl, rfl, ?_⟩; exact fun k hk => absurd hk (Nat.not_lt_zero _); done))) | (refine NRet.mk_ [some 17] rfl ?_ ?_; (· ((repeat' (first | exact rfl | exact trivial | refine ⟨?_, ?_⟩)); done)); (· (refine ⟨?_, trivial⟩; refine ⟨rfl, rfl, rfl, ?_⟩; exact fun k hk => absurd hk (Nat.not_lt_zero _); done))))
  have h0 : Nt.stE l = 0 := by assumption
  have s31 : (Nt.st l).length = 31 := by rw [show Nt.st l = Nt.sums l 31 from if_pos h0]; simp [Nt.sums]
  refine V.NLoop.auto (fun (k : Nat) => [(19, .one (.val (.int .i64 k))), (6, .one (.ref 3))]) (fun (k : Nat) => [(3, .row 77 3 (Pn.pos (Nt.st l) k).length (ga encP (Pn.pos (Nt.st l) k)))]) [] [] (fun (k : Nat) => 31 - k) (fun (k : Nat) => k ≤ 31) 0 (Nat.zero_le _) (by repeat' (first | exact rfl | exact Iff.rfl | exact trivial | exact (fun _ _ => rfl) | exact (fun _ h => absurd h (Nat.not_lt_zero _)) | refine ⟨?_, ?_⟩ | exact Iff.rfl | exact congrArg (fun z => V.SV.one (V.At.val (Value.int .i64 z))) (by omega))) (by repeat' (first | exact rfl | exact Iff.rfl | exact trivial | exact (fun _ _ => rfl) | exact (fun _ h => absurd h (Nat.not_lt_zero _)) | refine ⟨?_, ?_⟩ | exact Iff.rfl | exact congrArg (fun z => V.SV.one (V.At.val (Value.int .i64 z))) (by omega))) (fun _ => ⟨rfl, rfl⟩) ?_; (conv => whnf); refine ⟨⟨rfl, rfl⟩, ?_⟩
  rintro k hk
  by_cases hlt : k < 31
  · have pl := Pn.pos_len (Nt.st l) k
    have ps := Pn.pos_snoc (Nt.st l) k
    repeat' ((conv => whnf); first | (refine NApp.one (en := encP) (l := Pn.pos (Nt.st l) k) (x := ⟨k, 0, (Nt.st l).getD k default⟩) (by simp; omega) (by simp; omega) ?_) | refine V.NCond.mk ?_ | refine V.NIf.not_ ?_ | refine V.NIf.dec_ ?_ | refine V.NIf.no (by omega) ?_ | refine V.NIf.yes (by omega) ?_ | refine V.NIf.mk (fun _ => ?_) (fun _ => ?_) | refine V.NWrap.ok (by omega) (by omega) ?_ | refine V.NWrap.u64 (by omega) (by omega) ?_ | refine V.NLt.mk (by omega) ?_ | refine V.NBoth.mk ?_ ?_ | refine V.NTF.yes (by omega) ?_ | refine V.NTF.no (by omega) ?_ | refine V.NTF.dec ?_ | refine V.NDraw.q (by exact rfl) (by kernel_rfl) ?_ | refine V.NApp.one (by first | omega | (simp; omega)) (by first | omega | (simp; omega)) ?_ | (refine NIdx.mk ⟨_, rfl, by omega, ?_⟩) | (refine V.NDraw.any (by kernel_rfl) ?_) | fail)
    all_goals (conv => whnf)
    all_goals first
      | exact V.NBack.at_ (k + 1) [] (by omega) (by omega) (by repeat' (first | exact rfl | exact Iff.rfl | exact trivial | exact (fun _ _ => rfl) | exact (fun _ h => absurd h (Nat.not_lt_zero _)) | refine ⟨?_, ?_⟩ | exact Iff.rfl | exact congrArg (fun z => V.SV.one (V.At.val (Value.int .i64 z))) (by omega))) rfl ⟨ObLe.as_ (ps.trans (by rw [Pn.po_no (by assumption), List.append_nil])), trivial⟩ (by repeat' (first | exact rfl | exact Iff.rfl | exact trivial | exact (fun _ _ => rfl) | exact (fun _ h => absurd h (Nat.not_lt_zero _)) | refine ⟨?_, ?_⟩ | exact Iff.rfl | exact congrArg (fun z => V.SV.one (V.At.val (Value.int .i64 z))) (by omega))) (by repeat' (first | exact rfl | exact Iff.rfl | exact trivial | exact (fun _ _ => rfl) | exact (fun _ h => absurd h (Nat.not_lt_zero _)) | refine ⟨?_, ?_⟩ | exact Iff.rfl | exact congrArg (fun z => V.SV.one (V.At.val (Value.int .i64 z))) (by omega)))
      | exact V.NBack.at_ (k + 1) [(3, 5)] (by omega) (by omega) (by repeat' (first | exact rfl | exact Iff.rfl | exact trivial | exact (fun _ _ => rfl) | exact (fun _ h => absurd h (Nat.not_lt_zero _)) | refine ⟨?_, ?_⟩ | exact Iff.rfl | exact congrArg (fun z => V.SV.one (V.At.val (Value.int .i64 z))) (by omega))) rfl ⟨ObLe.as_ (ps.trans (by rw [Pn.po_yes (by assumption)])), trivial⟩ (by repeat' (first | exact rfl | exact Iff.rfl | exact trivial | exact (fun _ _ => rfl) | exact (fun _ h => absurd h (Nat.not_lt_zero _)) | refine ⟨?_, ?_⟩ | exact Iff.rfl | exact congrArg (fun z => V.SV.one (V.At.val (Value.int .i64 z))) (by omega))) (by repeat' (first | exact rfl | exact Iff.rfl | exact trivial | exact (fun _ _ => rfl) | exact (fun _ h => absurd h (Nat.not_lt_zero _)) | refine ⟨?_, ?_⟩ | exact Iff.rfl | exact congrArg (fun z => V.SV.one (V.At.val (Value.int .i64 z))) (by omega)))
      | skip
  obtain rfl : k = 31 := by omega
  repeat' ((conv => whnf); first | refine V.NCond.mk ?_ | refine V.NIf.not_ ?_ | refine V.NIf.dec_ ?_ | refine V.NIf.no (by omega) ?_ | refine V.NIf.yes (by omega) ?_ | refine V.NIf.mk (fun _ => ?_) (fun _ => ?_) | refine V.NWrap.ok (by omega) (by omega) ?_ | refine V.NWrap.u64 (by omega) (by omega) ?_ | refine V.NLt.mk (by omega) ?_ | refine V.NBoth.mk ?_ ?_ | refine V.NTF.yes (by omega) ?_ | refine V.NTF.no (by omega) ?_ | refine V.NTF.dec ?_ | refine V.NDraw.q (by exact rfl) (by kernel_rfl) ?_ | refine V.NApp.one (by first | omega | (simp; omega)) (by first | omega | (simp; omega)) ?_ | (refine V.NDraw.any (by kernel_rfl) ?_) | fail)
  all_goals (conv => whnf)
  · have e : Pn.suE l = 5 := (if_neg (by omega)).trans (if_pos (by omega))
    rw [show Pn.suL l = [] from if_neg (by omega), e]
    (first | (refine NRet.mk_ [some 0] rfl ?_ ?_; (· ((repeat' (first | exact rfl | exact trivial | refine ⟨?_, ?_⟩)); done)); (· (refine ⟨?_, trivial⟩; refine ⟨rfl, rfl, rfl, ?_⟩; exact fun k hk => absurd hk (Nat.not_lt_zero _); done))) | (refine NRet.mk_ [some 1] rfl ?_ ?_; (· ((repeat' (first | exact rfl | exact trivial | refine ⟨?_, ?_⟩)); done)); (· (refine ⟨?_, trivial⟩; refine ⟨rfl, rfl, rfl, ?_⟩; exact fun k hk => absurd hk (Nat.not_lt_zero _); done))) | (refine NRet.mk_ [some 2] rfl ?_ ?_; (· ((repeat' (first | exact rfl | exact trivial | refine ⟨?_, ?_⟩)); done)); (· (refine ⟨?_, trivial⟩; refine ⟨rfl, rfl, rfl, ?_⟩; exact fun k hk => absurd hk (Nat.not_lt_zero _); done))) | (refine NRet.mk_ [some 3] rfl ?_ ?_; (· ((repeat' (first | exact rfl | exact trivial | refine ⟨?_, ?_⟩)); done)); (· (refine ⟨?_, trivial⟩; refine ⟨rfl, rfl, rfl, ?_⟩; exact fun k hk => absurd hk (Nat.not_lt_zero _); done))) | (refine NRet.mk_ [some 4] rfl ?_ ?_; (· ((repeat' (first | exact rfl | exact trivial | refine ⟨?_, ?_⟩)); done)); (· (refine ⟨?_, trivial⟩; refine ⟨rfl, rfl, rfl, ?_⟩; exact fun k hk => absurd hk (Nat.not_lt_zero _); done))) | (refine NRet.mk_ [some 5] rfl ?_ ?_; (· ((repeat' (first | exact rfl | exact trivial | refine ⟨?_, ?_⟩)); done)); (· (refine ⟨?_, trivial⟩; refine ⟨rfl, rfl, rfl, ?_⟩; exact fun k hk => absurd hk (Nat.not_lt_zero _); done))) | (refine NRet.mk_ [some 6] rfl ?_ ?_; (· ((repeat' (first | exact rfl | exact trivial | refine ⟨?_, ?_⟩)); done)); (· (refine ⟨?_, trivial⟩; refine ⟨rfl, rfl, rfl, ?_⟩; exact fun k hk => absurd hk (Nat.not_lt_zero _); done))) | (refine NRet.mk_ [some 7] rfl ?_ ?_; (· ((repeat' (first | exact rfl | exact trivial | refine ⟨?_, ?_⟩)); done)); (· (refine ⟨?_, trivial⟩; refine ⟨rfl, rfl, rfl, ?_⟩; exact fun k hk => absurd hk (Nat.not_lt_zero _); done))) | (refine NRet.mk_ [some 8] rfl ?_ ?_; (· ((repeat' (first | exact rfl | exact trivial | refine ⟨?_, ?_⟩)); done)); (· (refine ⟨?_, trivial⟩; refine ⟨rfl, rfl, rfl, ?_⟩; exact fun k hk => absurd hk (Nat.not_lt_zero _); done))) | (refine NRet.mk_ [some 9] rfl ?_ ?_; (· ((repeat' (first | exact rfl | exact trivial | refine ⟨?_, ?_⟩)); done)); (· (refine ⟨?_, trivial⟩; refine ⟨rfl, rfl, rfl, ?_⟩; exact fun k hk => absurd hk (Nat.not_lt_zero _); done))) | (refine NRet.mk_ [some 10] rfl ?_ ?_; (· ((repeat' (first | exact rfl | exact trivial | refine ⟨?_, ?_⟩)); done)); (· (refine ⟨?_, trivial⟩; refine ⟨rfl, rfl, rfl, ?_⟩; exact fun k hk => absurd hk (Nat.not_lt_zero _); done))) | (refine NRet.mk_ [some 11] rfl ?_ ?_; (· ((repeat' (first | exact rfl | exact trivial | refine ⟨?_, ?_⟩)); done)); (· (refine ⟨?_, trivial⟩; refine ⟨rfl, rfl, rfl, ?_⟩; exact fun k hk => absurd hk (Nat.not_lt_zero _); done))) | (refine NRet.mk_ [some 12] rfl ?_ ?_; (· ((repeat' (first | exact rfl | exact trivial | refine ⟨?_, ?_⟩)); done)); (· (refine ⟨?_, trivial⟩; refine ⟨rfl, rfl, rfl, ?_⟩; exact fun k hk => absurd hk (Nat.not_lt_zero _); done))) | (refine NRet.mk_ [some 13] rfl ?_ ?_; (· ((repeat' (first | exact rfl | exact trivial | refine ⟨?_, ?_⟩)); done)); (· (refine ⟨?_, trivial⟩; refine ⟨rfl, rfl, rfl, ?_⟩; exact fun k hk => absurd hk (Nat.not_lt_zero _); done))) | (refine NRet.mk_ [some 14] rfl ?_ ?_; (· ((repeat' (first | exact rfl | exact trivial | refine ⟨?_, ?_⟩)); done)); (· (refine ⟨?_, trivial⟩; refine ⟨rfl, rfl, rfl, ?_⟩; exact fun k hk => absurd hk (Nat.not_lt_zero _); done))) | (refine NRet.mk_ [some 15] rfl ?_ ?_; (· ((repeat' (first | exact rfl | exact trivial | refine ⟨?_, ?_⟩)); done)); (· (refine ⟨?_, trivial⟩; refine ⟨rfl, rfl, rfl, ?_⟩; exact fun k hk => absurd hk (Nat.not_lt_zero _); done))) | (refine NRet.mk_ [some 16] rfl ?_ ?_; (· ((repeat' (first | exact rfl | exact trivial | refine ⟨?_, ?_⟩)); done)); (· (refine ⟨?_, trivial⟩; refine ⟨rfl, rfl, rfl, ?_⟩; exact fun k hk => absurd hk (Nat.not_lt_zero _); done))) | (refine NRet.mk_ [some 17] rfl ?_ ?_; (· ((repeat' (first | exact rfl | exact trivial | refine ⟨?_, ?_⟩)); done)); (· (refine ⟨?_, trivial⟩; refine ⟨rfl, rfl, rfl, ?_⟩; exact fun k hk => absurd hk (Nat.not_lt_zero _); done))))
  · have e : Pn.suE l = 0 := (if_neg (by omega)).trans (if_neg (by omega))
    rw [show Pn.suL l = Pn.pos (Nt.st l) 31 from if_pos e, e]
    (first | (refine NRet.mk_ [some 0] rfl ?_ ?_; (· ((repeat' (first | exact rfl | exact trivial | refine ⟨?_, ?_⟩)); done)); (· (refine ⟨?_, trivial⟩; exact ⟨rfl, rfl, rfl, fun _ _ => rfl⟩; done))) | (refine NRet.mk_ [some 1] rfl ?_ ?_; (· ((repeat' (first | exact rfl | exact trivial | refine ⟨?_, ?_⟩)); done)); (· (refine ⟨?_, trivial⟩; exact ⟨rfl, rfl, rfl, fun _ _ => rfl⟩; done))) | (refine NRet.mk_ [some 2] rfl ?_ ?_; (· ((repeat' (first | exact rfl | exact trivial | refine ⟨?_, ?_⟩)); done)); (· (refine ⟨?_, trivial⟩; exact ⟨rfl, rfl, rfl, fun _ _ => rfl⟩; done))) | (refine NRet.mk_ [some 3] rfl ?_ ?_; (· ((repeat' (first | exact rfl | exact trivial | refine ⟨?_, ?_⟩)); done)); (· (refine ⟨?_, trivial⟩; exact ⟨rfl, rfl, rfl, fun _ _ => rfl⟩; done))) | (refine NRet.mk_ [some 4] rfl ?_ ?_; (· ((repeat' (first | exact rfl | exact trivial | refine ⟨?_, ?_⟩)); done)); (· (refine ⟨?_, trivial⟩; exact ⟨rfl, rfl, rfl, fun _ _ => rfl⟩; done))) | (refine NRet.mk_ [some 5] rfl ?_ ?_; (· ((repeat' (first | exact rfl | exact trivial | refine ⟨?_, ?_⟩)); done)); (· (refine ⟨?_, trivial⟩; exact ⟨rfl, rfl, rfl, fun _ _ => rfl⟩; done))) | (refine NRet.mk_ [some 6] rfl ?_ ?_; (· ((repeat' (first | exact rfl | exact trivial | refine ⟨?_, ?_⟩)); done)); (· (refine ⟨?_, trivial⟩; exact ⟨rfl, rfl, rfl, fun _ _ => rfl⟩; done))) | (refine NRet.mk_ [some 7] rfl ?_ ?_; (· ((repeat' (first | exact rfl | exact trivial | refine ⟨?_, ?_⟩)); done)); (· (refine ⟨?_, trivial⟩; exact ⟨rfl, rfl, rfl, fun _ _ => rfl⟩; done))) | (refine NRet.mk_ [some 8] rfl ?_ ?_; (· ((repeat' (first | exact rfl | exact trivial | refine ⟨?_, ?_⟩)); done)); (· (refine ⟨?_, trivial⟩; exact ⟨rfl, rfl, rfl, fun _ _ => rfl⟩; done))) | (refine NRet.mk_ [some 9] rfl ?_ ?_; (· ((repeat' (first | exact rfl | exact trivial | refine ⟨?_, ?_⟩)); done)); (· (refine ⟨?_, trivial⟩; exact ⟨rfl, rfl, rfl, fun _ _ => rfl⟩; done))) | (refine NRet.mk_ [some 10] rfl ?_ ?_; (· ((repeat' (first | exact rfl | exact trivial | refine ⟨?_, ?_⟩)); done)); (· (refine ⟨?_, trivial⟩; exact ⟨rfl, rfl, rfl, fun _ _ => rfl⟩; done))) | (refine NRet.mk_ [some 11] rfl ?_ ?_; (· ((repeat' (first | exact rfl | exact trivial | refine ⟨?_, ?_⟩)); done)); (· (refine ⟨?_, trivial⟩; exact ⟨rfl, rfl, rfl, fun _ _ => rfl⟩; done))) | (refine NRet.mk_ [some 12] rfl ?_ ?_; (· ((repeat' (first | exact rfl | exact trivial | refine ⟨?_, ?_⟩)); done)); (· (refine ⟨?_, trivial⟩; exact ⟨rfl, rfl, rfl, fun _ _ => rfl⟩; done))) | (refine NRet.mk_ [some 13] rfl ?_ ?_; (· ((repeat' (first | exact rfl | exact trivial | refine ⟨?_, ?_⟩)); done)); (· (refine ⟨?_, trivial⟩; exact ⟨rfl, rfl, rfl, fun _ _ => rfl⟩; done))) | (refine NRet.mk_ [some 14] rfl ?_ ?_; (· ((repeat' (first | exact rfl | exact trivial | refine ⟨?_, ?_⟩)); done)); (· (refine ⟨?_, trivial⟩; exact ⟨rfl, rfl, rfl, fun _ _ => rfl⟩; done))) | (refine NRet.mk_ [some 15] rfl ?_ ?_; (· ((repeat' (first | exact rfl | exact trivial | refine ⟨?_, ?_⟩)); done)); (· (refine ⟨?_, trivial⟩; exact ⟨rfl, rfl, rfl, fun _ _ => rfl⟩; done))) | (refine NRet.mk_ [some 16] rfl ?_ ?_; (· ((repeat' (first | exact rfl | exact trivial | refine ⟨?_, ?_⟩)); done)); (· (refine ⟨?_, trivial⟩; exact ⟨rfl, rfl, rfl, fun _ _ => rfl⟩; done))) | (refine NRet.mk_ [some 17] rfl ?_ ?_; (· ((repeat' (first | exact rfl | exact trivial | refine ⟨?_, ?_⟩)); done)); (· (refine ⟨?_, trivial⟩; exact ⟨rfl, rfl, rfl, fun _ _ => rfl⟩; done))))
end Go.Proofs.Ytdeekpcfmgfmcaa

/- What must be in any case, of ages. -/
namespace Go.Proofs.Ytdeekpcfmgfmcaa
open Go Go.RowKit V
set_option maxRecDepth 100000
set_option linter.unusedVariables false
theorem v_someTerms : V.Fn Try.prog 53 [] [] (.agg #[.int .i64 4, .int .i64 7, .int .i64 2, .int .i64 100]) := by
  refine V.Fn.mk_ V.Tok V.mixed Try.func53 rfl Try.ntmps53 (by kernel_rfl) rfl rfl ?_
  repeat' ((conv => whnf); first | refine V.NCond.mk ?_ | refine V.NIf.not_ ?_ | refine V.NIf.dec_ ?_ | refine V.NIf.no (by omega) ?_ | refine V.NIf.yes (by omega) ?_ | refine V.NIf.mk (fun _ => ?_) (fun _ => ?_) | refine V.NWrap.ok (by omega) (by omega) ?_ | refine V.NWrap.u64 (by omega) (by omega) ?_ | refine V.NLt.mk (by omega) ?_ | refine V.NBoth.mk ?_ ?_ | refine V.NTF.yes (by omega) ?_ | refine V.NTF.no (by omega) ?_ | refine V.NTF.dec ?_ | refine V.NDraw.q (by exact rfl) (by kernel_rfl) ?_ | refine V.NApp.one (by first | omega | (simp; omega)) (by first | omega | (simp; omega)) ?_ | (refine V.NDraw.any (by kernel_rfl) ?_) | fail)
  all_goals (conv => whnf)
  all_goals exact ⟨rfl, rfl, rfl, rfl, trivial⟩
theorem v_ageBegun : V.Fn Try.prog 17 [] [] (.bool true) := by
  have c1 := v_agDays Ca.W Ag.A 739935 (by decide)
  rw [Ag.a_days.1, Ag.a_days.2.1, Ag.a_days.2.2.1, Ag.a_days.2.2.2] at c1
  have c2 := v_agStage Ca.W Ag.A F.s0 739942 (by decide)
  rw [Ag.a_s1.1, Ag.a_s1.2] at c2
  have c3 := v_agStage Ca.W Ag.A F.s0 739943 (by decide)
  rw [Ag.a_s2.1, Ag.a_s2.2] at c3
  have c4 := v_agLeft Ca.W Ag.A F.s0 739953 (by decide)
  rw [Ag.a_l.1, Ag.a_l.2] at c4
  have c5 := v_agStage Ca.W ⟨0, 101, 0, 0⟩ F.s0 1 (by decide)
  rw [Ag.a_b] at c5
  refine V.Fn.mk_ V.Tok V.mixed Try.func17 rfl Try.ntmps17 (by kernel_rfl) rfl rfl ?_
  repeat' ((conv => whnf); first | (refine V.NIf.yes ?_ ?_; · (decide; done)) | (refine V.NIf.no ?_ ?_; · (decide; done)) | refine V.NCond.mk ?_ | refine V.NIf.not_ ?_ | refine V.NIf.dec_ ?_ | refine V.NIf.no (by omega) ?_ | refine V.NIf.yes (by omega) ?_ | refine V.NIf.mk (fun _ => ?_) (fun _ => ?_) | refine V.NWrap.ok (by omega) (by omega) ?_ | refine V.NWrap.u64 (by omega) (by omega) ?_ | refine V.NLt.mk (by omega) ?_ | refine V.NBoth.mk ?_ ?_ | refine V.NTF.yes (by omega) ?_ | refine V.NTF.no (by omega) ?_ | refine V.NTF.dec ?_ | refine V.NDraw.q (by exact rfl) (by kernel_rfl) ?_ | refine V.NApp.one (by first | omega | (simp; omega)) (by first | omega | (simp; omega)) ?_ | (refine V.NCall.inl (f := 48) V.Tok V.mixed Try.func48 rfl Try.ntmps48 (by kernel_rfl) rfl ?_) | (first | refine V.Fn.k0 (v_someTerms) rfl ?_ | refine V.Fn.q0 (v_someTerms) rfl ?_ | refine V.Fn.a0 (v_someTerms) rfl ?_) | (first | refine V.Fn.k0 (v_some) rfl ?_ | refine V.Fn.q0 (v_some) rfl ?_ | refine V.Fn.a0 (v_some) rfl ?_) | ((first | refine V.Fn.k (c1) [1] rfl ?_ ?_ | refine V.Fn.q (c1) [1] rfl ?_ ?_ | refine V.Fn.a (c1) [1] rfl ?_ ?_); · ((repeat' (first | exact rfl | exact Iff.rfl | exact trivial | exact (fun _ _ => rfl) | exact (fun _ h => absurd h (Nat.not_lt_zero _)) | refine ⟨?_, ?_⟩ | exact Iff.rfl | exact congrArg (fun z => V.SV.one (V.At.val (Value.int .i64 z))) (by omega))); done)) | ((first | refine V.Fn.k (c2) [3] rfl ?_ ?_ | refine V.Fn.q (c2) [3] rfl ?_ ?_ | refine V.Fn.a (c2) [3] rfl ?_ ?_); · ((repeat' (first | exact rfl | exact Iff.rfl | exact trivial | exact (fun _ _ => rfl) | exact (fun _ h => absurd h (Nat.not_lt_zero _)) | refine ⟨?_, ?_⟩ | exact Iff.rfl | exact congrArg (fun z => V.SV.one (V.At.val (Value.int .i64 z))) (by omega))); done)) | ((first | refine V.Fn.k (c3) [5] rfl ?_ ?_ | refine V.Fn.q (c3) [5] rfl ?_ ?_ | refine V.Fn.a (c3) [5] rfl ?_ ?_); · ((repeat' (first | exact rfl | exact Iff.rfl | exact trivial | exact (fun _ _ => rfl) | exact (fun _ h => absurd h (Nat.not_lt_zero _)) | refine ⟨?_, ?_⟩ | exact Iff.rfl | exact congrArg (fun z => V.SV.one (V.At.val (Value.int .i64 z))) (by omega))); done)) | ((first | refine V.Fn.k (c4) [7] rfl ?_ ?_ | refine V.Fn.q (c4) [7] rfl ?_ ?_ | refine V.Fn.a (c4) [7] rfl ?_ ?_); · ((repeat' (first | exact rfl | exact Iff.rfl | exact trivial | exact (fun _ _ => rfl) | exact (fun _ h => absurd h (Nat.not_lt_zero _)) | refine ⟨?_, ?_⟩ | exact Iff.rfl | exact congrArg (fun z => V.SV.one (V.At.val (Value.int .i64 z))) (by omega))); done)) | ((first | refine V.Fn.k (c5) [9] rfl ?_ ?_ | refine V.Fn.q (c5) [9] rfl ?_ ?_ | refine V.Fn.a (c5) [9] rfl ?_ ?_); · ((repeat' (first | exact rfl | exact Iff.rfl | exact trivial | exact (fun _ _ => rfl) | exact (fun _ h => absurd h (Nat.not_lt_zero _)) | refine ⟨?_, ?_⟩ | exact Iff.rfl | exact congrArg (fun z => V.SV.one (V.At.val (Value.int .i64 z))) (by omega))); done)) | (refine V.NDraw.any (by kernel_rfl) ?_) | fail)
  all_goals (conv => whnf)
  all_goals first
    | exact ⟨true, rfl, iff_of_true rfl rfl⟩
    | trace_state
end Go.Proofs.Ytdeekpcfmgfmcaa

/- Plain facts on lots. -/
namespace Go.Proofs.Ytdeekpcfmgfmcaa
open Go
structure Lt where
  day : Int
  un : Int
  co : Int
instance : Inhabited Lt := ⟨⟨0, 0, 0⟩⟩
end Go.Proofs.Ytdeekpcfmgfmcaa

/- Are two lists one? -/
namespace Go.Proofs.Ytdeekpcfmgfmcaa
open Go Go.RowKit V
set_option maxRecDepth 100000
set_option linter.unusedVariables false
instance : DecidableEq Du := fun x y => decidable_of_iff (x.fr = y.fr ∧ x.to = y.to ∧ x.am = y.am) ⟨fun h => by cases x; cases y; simp_all, fun h => by subst h; simp⟩
theorem Du_ne {x y : Du} (h : ¬ (x.fr = y.fr ∧ x.to = y.to ∧ x.am = y.am ∧ True)) : x ≠ y := fun e => by subst e; exact h (by simp)
theorem Du_eq {x y : Du} (h : x.fr = y.fr ∧ x.to = y.to ∧ x.am = y.am ∧ True) : x = y := by cases x; cases y; simp_all
theorem v_samedues (a b : List Du) (ha : a.length ≤ 9223372036854775807) : V.Fn Try.prog 16 [.arr 3 a.length (ga encD a), .arr 3 b.length (ga encD b)] [.one (.ref 0), .one (.ref 1)] (.bool (decide (a = b))) := by
  refine V.Fn.mk_ V.Tok V.mixed Try.func16 rfl Try.ntmps16 (by kernel_rfl) rfl rfl ?_
  repeat' ((conv => whnf); first | refine V.NCond.mk ?_ | refine V.NIf.not_ ?_ | refine V.NIf.dec_ ?_ | refine V.NIf.no (by omega) ?_ | refine V.NIf.yes (by omega) ?_ | refine V.NIf.mk (fun _ => ?_) (fun _ => ?_) | refine V.NWrap.ok (by omega) (by omega) ?_ | refine V.NWrap.u64 (by omega) (by omega) ?_ | refine V.NLt.mk (by omega) ?_ | refine V.NBoth.mk ?_ ?_ | refine V.NTF.yes (by omega) ?_ | refine V.NTF.no (by omega) ?_ | refine V.NTF.dec ?_ | refine V.NDraw.q (by exact rfl) (by kernel_rfl) ?_ | refine V.NApp.one (by first | omega | (simp; omega)) (by first | omega | (simp; omega)) ?_ | (refine V.NDraw.any (by kernel_rfl) ?_) | fail)
  rotate_left
  · exact congrArg Value.bool (decide_eq_false (by rintro rfl; omega)).symm
  (conv => whnf)
  rename_i hl
  have hl : a.length = b.length := by omega
  refine V.NLoop.auto (fun (k : Nat) => [(5, .one (.val (.int .i64 k)))]) (fun (k : Nat) => []) [] [] (fun (k : Nat) => a.length - k) (fun (k : Nat) => k ≤ a.length ∧ a.take k = b.take k) 0 ⟨by omega, by simp⟩ (by repeat' (first | exact rfl | exact Iff.rfl | exact trivial | exact (fun _ _ => rfl) | exact (fun _ h => absurd h (Nat.not_lt_zero _)) | refine ⟨?_, ?_⟩ | exact Iff.rfl | exact congrArg (fun z => V.SV.one (V.At.val (Value.int .i64 z))) (by omega))) (by repeat' (first | exact rfl | exact Iff.rfl | exact trivial | exact (fun _ _ => rfl) | exact (fun _ h => absurd h (Nat.not_lt_zero _)) | refine ⟨?_, ?_⟩ | exact Iff.rfl | exact congrArg (fun z => V.SV.one (V.At.val (Value.int .i64 z))) (by omega))) (fun _ => ⟨rfl, rfl⟩) ?_; (conv => whnf); refine ⟨⟨rfl, rfl⟩, ?_⟩
  rintro k ⟨hk, hJ⟩
  by_cases hlt : k < a.length
  · have e1 := getD_at (l := a) (by omega)
    have e2 := getD_at (l := b) (k := k) (by omega)
    repeat' ((conv => whnf); first | refine V.NCond.mk ?_ | refine V.NIf.not_ ?_ | refine V.NIf.dec_ ?_ | refine V.NIf.no (by omega) ?_ | refine V.NIf.yes (by omega) ?_ | refine V.NIf.mk (fun _ => ?_) (fun _ => ?_) | refine V.NWrap.ok (by omega) (by omega) ?_ | refine V.NWrap.u64 (by omega) (by omega) ?_ | refine V.NLt.mk (by omega) ?_ | refine V.NBoth.mk ?_ ?_ | refine V.NTF.yes (by omega) ?_ | refine V.NTF.no (by omega) ?_ | refine V.NTF.dec ?_ | refine V.NDraw.q (by exact rfl) (by kernel_rfl) ?_ | refine V.NApp.one (by first | omega | (simp; omega)) (by first | omega | (simp; omega)) ?_ | (refine NIdx.mk ⟨k, rfl, by omega, ?_⟩) | (refine V.NDraw.any (by kernel_rfl) ?_) | fail)
    all_goals (conv => whnf)
    · rename_i q
      exact V.NBack.at_ (k + 1) [] ⟨by omega, by rw [List.take_succ_eq_append_getElem hlt, List.take_succ_eq_append_getElem (by omega), hJ, ← e1, ← e2, Du_eq q]⟩ (by omega) (by repeat' (first | exact rfl | exact Iff.rfl | exact trivial | exact (fun _ _ => rfl) | exact (fun _ h => absurd h (Nat.not_lt_zero _)) | refine ⟨?_, ?_⟩ | exact Iff.rfl | exact congrArg (fun z => V.SV.one (V.At.val (Value.int .i64 z))) (by omega))) rfl (by repeat' (first | exact rfl | exact Iff.rfl | exact trivial | exact (fun _ _ => rfl) | exact (fun _ h => absurd h (Nat.not_lt_zero _)) | refine ⟨?_, ?_⟩ | exact Iff.rfl | exact congrArg (fun z => V.SV.one (V.At.val (Value.int .i64 z))) (by omega))) (by repeat' (first | exact rfl | exact Iff.rfl | exact trivial | exact (fun _ _ => rfl) | exact (fun _ h => absurd h (Nat.not_lt_zero _)) | refine ⟨?_, ?_⟩ | exact Iff.rfl | exact congrArg (fun z => V.SV.one (V.At.val (Value.int .i64 z))) (by omega))) (by repeat' (first | exact rfl | exact Iff.rfl | exact trivial | exact (fun _ _ => rfl) | exact (fun _ h => absurd h (Nat.not_lt_zero _)) | refine ⟨?_, ?_⟩ | exact Iff.rfl | exact congrArg (fun z => V.SV.one (V.At.val (Value.int .i64 z))) (by omega)))
    · rename_i q
      exact congrArg Value.bool (decide_eq_false (by rintro rfl; exact Du_ne q rfl)).symm
  · obtain rfl : k = a.length := by omega
    repeat' ((conv => whnf); first | refine V.NCond.mk ?_ | refine V.NIf.not_ ?_ | refine V.NIf.dec_ ?_ | refine V.NIf.no (by omega) ?_ | refine V.NIf.yes (by omega) ?_ | refine V.NIf.mk (fun _ => ?_) (fun _ => ?_) | refine V.NWrap.ok (by omega) (by omega) ?_ | refine V.NWrap.u64 (by omega) (by omega) ?_ | refine V.NLt.mk (by omega) ?_ | refine V.NBoth.mk ?_ ?_ | refine V.NTF.yes (by omega) ?_ | refine V.NTF.no (by omega) ?_ | refine V.NTF.dec ?_ | refine V.NDraw.q (by exact rfl) (by kernel_rfl) ?_ | refine V.NApp.one (by first | omega | (simp; omega)) (by first | omega | (simp; omega)) ?_ | (refine V.NDraw.any (by kernel_rfl) ?_) | fail)
    (conv => whnf)
    refine congrArg Value.bool (decide_eq_true ?_).symm
    rw [List.take_length, List.take_of_length_le (by omega)] at hJ
    exact hJ
instance : DecidableEq Po := fun x y => decidable_of_iff (x.ac = y.ac ∧ x.ut = y.ut ∧ x.am = y.am) ⟨fun h => by cases x; cases y; simp_all, fun h => by subst h; simp⟩
theorem Po_ne {x y : Po} (h : ¬ (x.ac = y.ac ∧ x.ut = y.ut ∧ x.am = y.am ∧ True)) : x ≠ y := fun e => by subst e; exact h (by simp)
theorem Po_eq {x y : Po} (h : x.ac = y.ac ∧ x.ut = y.ut ∧ x.am = y.am ∧ True) : x = y := by cases x; cases y; simp_all
theorem v_sameposts (a b : List Po) (ha : a.length ≤ 9223372036854775807) : V.Fn Try.prog 25 [.arr 3 a.length (ga encP a), .arr 3 b.length (ga encP b)] [.one (.ref 0), .one (.ref 1)] (.bool (decide (a = b))) := by
  refine V.Fn.mk_ V.Tok V.mixed Try.func25 rfl Try.ntmps25 (by kernel_rfl) rfl rfl ?_
  repeat' ((conv => whnf); first | refine V.NCond.mk ?_ | refine V.NIf.not_ ?_ | refine V.NIf.dec_ ?_ | refine V.NIf.no (by omega) ?_ | refine V.NIf.yes (by omega) ?_ | refine V.NIf.mk (fun _ => ?_) (fun _ => ?_) | refine V.NWrap.ok (by omega) (by omega) ?_ | refine V.NWrap.u64 (by omega) (by omega) ?_ | refine V.NLt.mk (by omega) ?_ | refine V.NBoth.mk ?_ ?_ | refine V.NTF.yes (by omega) ?_ | refine V.NTF.no (by omega) ?_ | refine V.NTF.dec ?_ | refine V.NDraw.q (by exact rfl) (by kernel_rfl) ?_ | refine V.NApp.one (by first | omega | (simp; omega)) (by first | omega | (simp; omega)) ?_ | (refine V.NDraw.any (by kernel_rfl) ?_) | fail)
  rotate_left
  · exact congrArg Value.bool (decide_eq_false (by rintro rfl; omega)).symm
  (conv => whnf)
  rename_i hl
  have hl : a.length = b.length := by omega
  refine V.NLoop.auto (fun (k : Nat) => [(5, .one (.val (.int .i64 k)))]) (fun (k : Nat) => []) [] [] (fun (k : Nat) => a.length - k) (fun (k : Nat) => k ≤ a.length ∧ a.take k = b.take k) 0 ⟨by omega, by simp⟩ (by repeat' (first | exact rfl | exact Iff.rfl | exact trivial | exact (fun _ _ => rfl) | exact (fun _ h => absurd h (Nat.not_lt_zero _)) | refine ⟨?_, ?_⟩ | exact Iff.rfl | exact congrArg (fun z => V.SV.one (V.At.val (Value.int .i64 z))) (by omega))) (by repeat' (first | exact rfl | exact Iff.rfl | exact trivial | exact (fun _ _ => rfl) | exact (fun _ h => absurd h (Nat.not_lt_zero _)) | refine ⟨?_, ?_⟩ | exact Iff.rfl | exact congrArg (fun z => V.SV.one (V.At.val (Value.int .i64 z))) (by omega))) (fun _ => ⟨rfl, rfl⟩) ?_; (conv => whnf); refine ⟨⟨rfl, rfl⟩, ?_⟩
  rintro k ⟨hk, hJ⟩
  by_cases hlt : k < a.length
  · have e1 := getD_at (l := a) (by omega)
    have e2 := getD_at (l := b) (k := k) (by omega)
    repeat' ((conv => whnf); first | refine V.NCond.mk ?_ | refine V.NIf.not_ ?_ | refine V.NIf.dec_ ?_ | refine V.NIf.no (by omega) ?_ | refine V.NIf.yes (by omega) ?_ | refine V.NIf.mk (fun _ => ?_) (fun _ => ?_) | refine V.NWrap.ok (by omega) (by omega) ?_ | refine V.NWrap.u64 (by omega) (by omega) ?_ | refine V.NLt.mk (by omega) ?_ | refine V.NBoth.mk ?_ ?_ | refine V.NTF.yes (by omega) ?_ | refine V.NTF.no (by omega) ?_ | refine V.NTF.dec ?_ | refine V.NDraw.q (by exact rfl) (by kernel_rfl) ?_ | refine V.NApp.one (by first | omega | (simp; omega)) (by first | omega | (simp; omega)) ?_ | (refine NIdx.mk ⟨k, rfl, by omega, ?_⟩) | (refine V.NDraw.any (by kernel_rfl) ?_) | fail)
    all_goals (conv => whnf)
    · rename_i q
      exact V.NBack.at_ (k + 1) [] ⟨by omega, by rw [List.take_succ_eq_append_getElem hlt, List.take_succ_eq_append_getElem (by omega), hJ, ← e1, ← e2, Po_eq q]⟩ (by omega) (by repeat' (first | exact rfl | exact Iff.rfl | exact trivial | exact (fun _ _ => rfl) | exact (fun _ h => absurd h (Nat.not_lt_zero _)) | refine ⟨?_, ?_⟩ | exact Iff.rfl | exact congrArg (fun z => V.SV.one (V.At.val (Value.int .i64 z))) (by omega))) rfl (by repeat' (first | exact rfl | exact Iff.rfl | exact trivial | exact (fun _ _ => rfl) | exact (fun _ h => absurd h (Nat.not_lt_zero _)) | refine ⟨?_, ?_⟩ | exact Iff.rfl | exact congrArg (fun z => V.SV.one (V.At.val (Value.int .i64 z))) (by omega))) (by repeat' (first | exact rfl | exact Iff.rfl | exact trivial | exact (fun _ _ => rfl) | exact (fun _ h => absurd h (Nat.not_lt_zero _)) | refine ⟨?_, ?_⟩ | exact Iff.rfl | exact congrArg (fun z => V.SV.one (V.At.val (Value.int .i64 z))) (by omega))) (by repeat' (first | exact rfl | exact Iff.rfl | exact trivial | exact (fun _ _ => rfl) | exact (fun _ h => absurd h (Nat.not_lt_zero _)) | refine ⟨?_, ?_⟩ | exact Iff.rfl | exact congrArg (fun z => V.SV.one (V.At.val (Value.int .i64 z))) (by omega)))
    · rename_i q
      exact congrArg Value.bool (decide_eq_false (by rintro rfl; exact Po_ne q rfl)).symm
  · obtain rfl : k = a.length := by omega
    repeat' ((conv => whnf); first | refine V.NCond.mk ?_ | refine V.NIf.not_ ?_ | refine V.NIf.dec_ ?_ | refine V.NIf.no (by omega) ?_ | refine V.NIf.yes (by omega) ?_ | refine V.NIf.mk (fun _ => ?_) (fun _ => ?_) | refine V.NWrap.ok (by omega) (by omega) ?_ | refine V.NWrap.u64 (by omega) (by omega) ?_ | refine V.NLt.mk (by omega) ?_ | refine V.NBoth.mk ?_ ?_ | refine V.NTF.yes (by omega) ?_ | refine V.NTF.no (by omega) ?_ | refine V.NTF.dec ?_ | refine V.NDraw.q (by exact rfl) (by kernel_rfl) ?_ | refine V.NApp.one (by first | omega | (simp; omega)) (by first | omega | (simp; omega)) ?_ | (refine V.NDraw.any (by kernel_rfl) ?_) | fail)
    (conv => whnf)
    refine congrArg Value.bool (decide_eq_true ?_).symm
    rw [List.take_length, List.take_of_length_le (by omega)] at hJ
    exact hJ
instance : DecidableEq Fl := fun x y => decidable_of_iff (x.id = y.id ∧ x.fr = y.fr ∧ x.to = y.to ∧ x.cl = y.cl ∧ x.pa = y.pa ∧ x.day = y.day ∧ x.un = y.un ∧ x.de = y.de ∧ x.bo = y.bo ∧ x.pd = y.pd) ⟨fun h => by cases x; cases y; simp_all, fun h => by subst h; simp⟩
instance : DecidableEq Lt := fun x y => decidable_of_iff (x.day = y.day ∧ x.un = y.un ∧ x.co = y.co) ⟨fun h => by cases x; cases y; simp_all, fun h => by subst h; simp⟩
end Go.Proofs.Ytdeekpcfmgfmcaa

/- What must be in any case, of penalties. -/
namespace Go.Proofs.Ytdeekpcfmgfmcaa
open Go Go.RowKit V
set_option maxRecDepth 100000
set_option linter.unusedVariables false
def tm0 : Tm := ⟨4, 7, 2, 100⟩
namespace Pn
def cls : List Tm := List.replicate 6 tm0
def tens : List Int := List.replicate 20 100000
theorem rep_at {α : Type} (x d : α) {n j : Nat} (h : j < n) : (List.replicate n x).getD j d = x := by simp [List.getD, h]
end Pn
theorem v_classes : V.FnR Try.prog 49 [] [] (.one (.ref 0)) [.row 41 4 6 (ga encTm Pn.cls)] := by
  refine V.FnR.mk_ V.Tok V.mixed Try.func49 rfl Try.ntmps49 (by kernel_rfl) rfl rfl rfl rfl ?_
  repeat' ((conv => whnf); first | refine V.NCond.mk ?_ | refine V.NIf.not_ ?_ | refine V.NIf.dec_ ?_ | refine V.NIf.no (by omega) ?_ | refine V.NIf.yes (by omega) ?_ | refine V.NIf.mk (fun _ => ?_) (fun _ => ?_) | refine V.NWrap.ok (by omega) (by omega) ?_ | refine V.NWrap.u64 (by omega) (by omega) ?_ | refine V.NLt.mk (by omega) ?_ | refine V.NBoth.mk ?_ ?_ | refine V.NTF.yes (by omega) ?_ | refine V.NTF.no (by omega) ?_ | refine V.NTF.dec ?_ | refine V.NDraw.q (by exact rfl) (by kernel_rfl) ?_ | refine V.NApp.one (by first | omega | (simp; omega)) (by first | omega | (simp; omega)) ?_ | (refine NMake.mk ⟨6, 6, rfl, rfl, by omega, by omega, by first | omega | decide | (simp; done) | (simp; omega), ?_⟩) | (refine V.NDraw.any (by kernel_rfl) ?_) | fail)
  all_goals (conv => whnf)
  refine V.NLoop.auto (fun (k : Nat) => [(2, .one (.val (.int .i64 k))), (1, .one (.ref 1))]) (fun (k : Nat) => [(1, .row 41 4 6 fun j => encTm (if j < k then tm0 else (⟨0, 0, 0, 0⟩ : Tm)))]) [] [] (fun (k : Nat) => 6 - k) (fun (k : Nat) => k ≤ 6) 0 (Nat.zero_le _) (by repeat' (first | exact rfl | exact Iff.rfl | exact trivial | exact (fun _ _ => rfl) | exact (fun _ h => absurd h (Nat.not_lt_zero _)) | refine ⟨?_, ?_⟩ | exact Iff.rfl | exact congrArg (fun z => V.SV.one (V.At.val (Value.int .i64 z))) (by omega))) (by (conv => whnf); exact ⟨⟨rfl, rfl, rfl, fun j hj => (congrArg encTm (show (if j < 0 then tm0 else (⟨0, 0, 0, 0⟩ : Tm)) = ⟨0, 0, 0, 0⟩ from if_neg (Nat.not_lt_zero j))).symm⟩, trivial⟩) (fun _ => ⟨rfl, rfl⟩) ?_; (conv => whnf); refine ⟨⟨rfl, rfl⟩, ?_⟩
  rintro k hk
  by_cases hlt : k < 6
  · repeat' ((conv => whnf); first | refine V.NCond.mk ?_ | refine V.NIf.not_ ?_ | refine V.NIf.dec_ ?_ | refine V.NIf.no (by omega) ?_ | refine V.NIf.yes (by omega) ?_ | refine V.NIf.mk (fun _ => ?_) (fun _ => ?_) | refine V.NWrap.ok (by omega) (by omega) ?_ | refine V.NWrap.u64 (by omega) (by omega) ?_ | refine V.NLt.mk (by omega) ?_ | refine V.NBoth.mk ?_ ?_ | refine V.NTF.yes (by omega) ?_ | refine V.NTF.no (by omega) ?_ | refine V.NTF.dec ?_ | refine V.NDraw.q (by exact rfl) (by kernel_rfl) ?_ | refine V.NApp.one (by first | omega | (simp; omega)) (by first | omega | (simp; omega)) ?_ | (first | refine V.Fn.k0 (v_someTerms) rfl ?_ | refine V.Fn.q0 (v_someTerms) rfl ?_ | refine V.Fn.a0 (v_someTerms) rfl ?_) | (refine NIdx.mk ⟨k, rfl, by omega, ?_⟩) | (refine NPut.mk ⟨fun j => encTm (if j < k + 1 then tm0 else (⟨0, 0, 0, 0⟩ : Tm)), ?_, ?_⟩) | (refine V.NDraw.any (by kernel_rfl) ?_) | fail)
    all_goals (conv => whnf)
    · intro j hj
      by_cases e : j = k
      · rw [if_pos e]; exact congrArg encTm (if_pos (by omega))
      · rw [if_neg e]
        by_cases e2 : j < k
        · exact congrArg encTm ((if_pos (by omega)).trans (if_pos e2).symm)
        · exact congrArg encTm ((if_neg (by omega)).trans (if_neg e2).symm)
    · exact V.NBack.at_ (k + 1) [] (by omega) (by omega) (by repeat' (first | exact rfl | exact Iff.rfl | exact trivial | exact (fun _ _ => rfl) | exact (fun _ h => absurd h (Nat.not_lt_zero _)) | refine ⟨?_, ?_⟩ | exact Iff.rfl | exact congrArg (fun z => V.SV.one (V.At.val (Value.int .i64 z))) (by omega))) rfl ⟨⟨rfl, rfl, rfl, fun _ _ => rfl⟩, trivial⟩ (by repeat' (first | exact rfl | exact Iff.rfl | exact trivial | exact (fun _ _ => rfl) | exact (fun _ h => absurd h (Nat.not_lt_zero _)) | refine ⟨?_, ?_⟩ | exact Iff.rfl | exact congrArg (fun z => V.SV.one (V.At.val (Value.int .i64 z))) (by omega))) (by repeat' (first | exact rfl | exact Iff.rfl | exact trivial | exact (fun _ _ => rfl) | exact (fun _ h => absurd h (Nat.not_lt_zero _)) | refine ⟨?_, ?_⟩ | exact Iff.rfl | exact congrArg (fun z => V.SV.one (V.At.val (Value.int .i64 z))) (by omega)))
  obtain rfl : k = 6 := by omega
  repeat' ((conv => whnf); first | refine V.NCond.mk ?_ | refine V.NIf.not_ ?_ | refine V.NIf.dec_ ?_ | refine V.NIf.no (by omega) ?_ | refine V.NIf.yes (by omega) ?_ | refine V.NIf.mk (fun _ => ?_) (fun _ => ?_) | refine V.NWrap.ok (by omega) (by omega) ?_ | refine V.NWrap.u64 (by omega) (by omega) ?_ | refine V.NLt.mk (by omega) ?_ | refine V.NBoth.mk ?_ ?_ | refine V.NTF.yes (by omega) ?_ | refine V.NTF.no (by omega) ?_ | refine V.NTF.dec ?_ | refine V.NDraw.q (by exact rfl) (by kernel_rfl) ?_ | refine V.NApp.one (by first | omega | (simp; omega)) (by first | omega | (simp; omega)) ?_ | (refine V.NDraw.any (by kernel_rfl) ?_) | fail)
  all_goals (conv => whnf)
  exact NRet.mk_ [some 1] rfl rfl ⟨⟨rfl, rfl, rfl, fun j hj => congrArg encTm ((if_pos hj).trans (Pn.rep_at tm0 default hj).symm)⟩, trivial⟩
theorem v_tenEach : V.FnR Try.prog 50 [] [] (.one (.ref 0)) [.row 3 1 20 (ga e1 Pn.tens)] := by
  refine V.FnR.mk_ V.Tok V.mixed Try.func50 rfl Try.ntmps50 (by kernel_rfl) rfl rfl rfl rfl ?_
  repeat' ((conv => whnf); first | refine V.NCond.mk ?_ | refine V.NIf.not_ ?_ | refine V.NIf.dec_ ?_ | refine V.NIf.no (by omega) ?_ | refine V.NIf.yes (by omega) ?_ | refine V.NIf.mk (fun _ => ?_) (fun _ => ?_) | refine V.NWrap.ok (by omega) (by omega) ?_ | refine V.NWrap.u64 (by omega) (by omega) ?_ | refine V.NLt.mk (by omega) ?_ | refine V.NBoth.mk ?_ ?_ | refine V.NTF.yes (by omega) ?_ | refine V.NTF.no (by omega) ?_ | refine V.NTF.dec ?_ | refine V.NDraw.q (by exact rfl) (by kernel_rfl) ?_ | refine V.NApp.one (by first | omega | (simp; omega)) (by first | omega | (simp; omega)) ?_ | (refine NMake.mk ⟨20, 20, rfl, rfl, by omega, by omega, by first | omega | decide | (simp; done) | (simp; omega), ?_⟩) | (refine V.NDraw.any (by kernel_rfl) ?_) | fail)
  all_goals (conv => whnf)
  refine V.NLoop.auto (fun (k : Nat) => [(2, .one (.val (.int .i64 k))), (1, .one (.ref 1))]) (fun (k : Nat) => [(1, .row 3 1 20 fun j => e1 (if j < k then 100000 else 0))]) [] [] (fun (k : Nat) => 20 - k) (fun (k : Nat) => k ≤ 20) 0 (Nat.zero_le _) (by repeat' (first | exact rfl | exact Iff.rfl | exact trivial | exact (fun _ _ => rfl) | exact (fun _ h => absurd h (Nat.not_lt_zero _)) | refine ⟨?_, ?_⟩ | exact Iff.rfl | exact congrArg (fun z => V.SV.one (V.At.val (Value.int .i64 z))) (by omega))) (by (conv => whnf); exact ⟨⟨rfl, rfl, rfl, fun j hj => (congrArg e1 (if_neg (Nat.not_lt_zero j))).symm⟩, trivial⟩) (fun _ => ⟨rfl, rfl⟩) ?_; (conv => whnf); refine ⟨⟨rfl, rfl⟩, ?_⟩
  rintro k hk
  by_cases hlt : k < 20
  · repeat' ((conv => whnf); first | refine V.NCond.mk ?_ | refine V.NIf.not_ ?_ | refine V.NIf.dec_ ?_ | refine V.NIf.no (by omega) ?_ | refine V.NIf.yes (by omega) ?_ | refine V.NIf.mk (fun _ => ?_) (fun _ => ?_) | refine V.NWrap.ok (by omega) (by omega) ?_ | refine V.NWrap.u64 (by omega) (by omega) ?_ | refine V.NLt.mk (by omega) ?_ | refine V.NBoth.mk ?_ ?_ | refine V.NTF.yes (by omega) ?_ | refine V.NTF.no (by omega) ?_ | refine V.NTF.dec ?_ | refine V.NDraw.q (by exact rfl) (by kernel_rfl) ?_ | refine V.NApp.one (by first | omega | (simp; omega)) (by first | omega | (simp; omega)) ?_ | (refine NIdx.mk ⟨k, rfl, by omega, ?_⟩) | (refine NPut.mk ⟨fun j => e1 (if j < k + 1 then 100000 else 0), ?_, ?_⟩) | (refine V.NDraw.any (by kernel_rfl) ?_) | fail)
    all_goals (conv => whnf)
    · intro j hj
      by_cases e : j = k
      · rw [if_pos e]; exact congrArg e1 (if_pos (by omega))
      · rw [if_neg e]
        by_cases e2 : j < k
        · exact congrArg e1 ((if_pos (by omega)).trans (if_pos e2).symm)
        · exact congrArg e1 ((if_neg (by omega)).trans (if_neg e2).symm)
    · exact V.NBack.at_ (k + 1) [] (by omega) (by omega) (by repeat' (first | exact rfl | exact Iff.rfl | exact trivial | exact (fun _ _ => rfl) | exact (fun _ h => absurd h (Nat.not_lt_zero _)) | refine ⟨?_, ?_⟩ | exact Iff.rfl | exact congrArg (fun z => V.SV.one (V.At.val (Value.int .i64 z))) (by omega))) rfl ⟨⟨rfl, rfl, rfl, fun _ _ => rfl⟩, trivial⟩ (by repeat' (first | exact rfl | exact Iff.rfl | exact trivial | exact (fun _ _ => rfl) | exact (fun _ h => absurd h (Nat.not_lt_zero _)) | refine ⟨?_, ?_⟩ | exact Iff.rfl | exact congrArg (fun z => V.SV.one (V.At.val (Value.int .i64 z))) (by omega))) (by repeat' (first | exact rfl | exact Iff.rfl | exact trivial | exact (fun _ _ => rfl) | exact (fun _ h => absurd h (Nat.not_lt_zero _)) | refine ⟨?_, ?_⟩ | exact Iff.rfl | exact congrArg (fun z => V.SV.one (V.At.val (Value.int .i64 z))) (by omega)))
  obtain rfl : k = 20 := by omega
  repeat' ((conv => whnf); first | refine V.NCond.mk ?_ | refine V.NIf.not_ ?_ | refine V.NIf.dec_ ?_ | refine V.NIf.no (by omega) ?_ | refine V.NIf.yes (by omega) ?_ | refine V.NIf.mk (fun _ => ?_) (fun _ => ?_) | refine V.NWrap.ok (by omega) (by omega) ?_ | refine V.NWrap.u64 (by omega) (by omega) ?_ | refine V.NLt.mk (by omega) ?_ | refine V.NBoth.mk ?_ ?_ | refine V.NTF.yes (by omega) ?_ | refine V.NTF.no (by omega) ?_ | refine V.NTF.dec ?_ | refine V.NDraw.q (by exact rfl) (by kernel_rfl) ?_ | refine V.NApp.one (by first | omega | (simp; omega)) (by first | omega | (simp; omega)) ?_ | (refine V.NDraw.any (by kernel_rfl) ?_) | fail)
  all_goals (conv => whnf)
  exact NRet.mk_ [some 1] rfl rfl ⟨⟨rfl, rfl, rfl, fun j hj => congrArg e1 ((if_pos hj).trans (Pn.rep_at 100000 default hj).symm)⟩, trivial⟩
end Go.Proofs.Ytdeekpcfmgfmcaa

/- Plain facts on what lateness costs: a day and a sum that are looked at in any case. -/
namespace Go.Proofs.Ytdeekpcfmgfmcaa
set_option linter.unusedVariables false
set_option maxRecDepth 100000
namespace Pn
def f1 : Fl := ⟨7, 1, 2, 0, 3, 739935, 3000, 0, 0, 0⟩
def d1 : List Du := [⟨1, 2, 3⟩]
theorem t_cls : tE cls = 0 := tE_of (by decide) fun x hx => by rw [List.eq_of_mem_replicate hx]; decide
theorem p_tens : P.chks tens = 0 := P.chks_of (by decide) fun p hp => by rw [List.eq_of_mem_replicate hp]; decide
theorem w_chk : Ca.chk Ca.W = 0 := by decide
theorem o_yes : oE Ca.W 739937 = 0 := oE_yes w_chk ⟨by decide, by decide⟩
theorem o_no : oE Ca.W 739936 = 4 := oE_4 w_chk (by decide) (by decide)
theorem f1_ok : F.checks [f1] = 0 := by decide
theorem f1_e : Ag.sE Ca.W Ag.A f1 739937 = 0 := Ag.sE_of (by decide) (by decide) (by decide) (by decide) (by exact Ag.a_th)
theorem f1_s : Ag.sV Ca.W Ag.A f1 739937 = 1 := (Ag.sV_yes f1_e).trans (((Ag.stg_is f1_e).2 (by decide)).2.1 (by decide) (by rw [show f1.day = 739935 from rfl, Ag.a_1]; decide))
theorem f1_q : qF cls tens f1 = 3 := by
  show cs (F.left f1) (P.pr tens f1.pa) (cl cls f1).ra = 3
  rw [show F.left f1 = 3000 by decide, show P.pr tens f1.pa = 100000 from rep_at 100000 default (by decide), show cl cls f1 = tm0 from rep_at tm0 default (by decide)]
  decide
theorem y_1 : yD Ca.W cls [f1] tens 739937 = 0 ∧ yL Ca.W cls [f1] tens 739937 = d1 := by
  have hc : cl cls f1 = Ag.A := rep_at tm0 default (by decide)
  have e : eF Ca.W cls 739937 f1 = 0 := by show Ag.sE Ca.W (cl cls f1) f1 739937 = 0; rw [hc]; exact f1_e
  have y := y_yes (c := Ca.W) (t := cls) (l := [f1]) (ps := tens) (n := 739937) (yE_of ⟨w_chk, t_cls, f1_ok, p_tens, o_yes⟩) (fb_yes fun d hd => by rw [List.mem_singleton] at hd; rw [hd]; exact e)
  refine ⟨y.1, y.2.trans ?_⟩
  show du1 Ca.W cls tens 739937 f1 ++ [] = d1
  rw [du1_yes (by rw [hc, f1_s]; exact ⟨by decide, by decide⟩) (by rw [f1_q]; decide), f1_q]
  rfl
theorem y_2 : yD Ca.W cls [] tens 739936 = 4 ∧ yL Ca.W cls [] tens 739936 = [] := by
  have e : yE Ca.W cls [] tens 739936 = 4 := (yE_5 w_chk t_cls (by decide) p_tens).trans o_no
  have y := y_no (c := Ca.W) (t := cls) (l := []) (ps := tens) (n := 739936) (by omega)
  exact ⟨y.1.trans e, y.2⟩
theorem s_1 : suE d1 = 0 ∧ suL d1 = [⟨1, 0, -3⟩, ⟨2, 0, 3⟩] := by decide
theorem s_2 : suE [] = 5 ∧ suL [] = [] := by decide
end Pn
end Go.Proofs.Ytdeekpcfmgfmcaa

/- What must be in any case, of penalties. -/
namespace Go.Proofs.Ytdeekpcfmgfmcaa
open Go Go.RowKit V
set_option maxRecDepth 100000
set_option linter.unusedVariables false
theorem v_week : V.FnR Try.prog 48 [] [] (.agg [.val (.int .i64 96), .ref 0]) [.row 3 1 1 (ga e1 [739936])] := by
  refine V.FnR.mk_ V.Tok V.mixed Try.func48 rfl Try.ntmps48 (by kernel_rfl) rfl rfl rfl rfl ?_
  repeat' ((conv => whnf); first | refine V.NCond.mk ?_ | refine V.NIf.not_ ?_ | refine V.NIf.dec_ ?_ | refine V.NIf.no (by omega) ?_ | refine V.NIf.yes (by omega) ?_ | refine V.NIf.mk (fun _ => ?_) (fun _ => ?_) | refine V.NWrap.ok (by omega) (by omega) ?_ | refine V.NWrap.u64 (by omega) (by omega) ?_ | refine V.NLt.mk (by omega) ?_ | refine V.NBoth.mk ?_ ?_ | refine V.NTF.yes (by omega) ?_ | refine V.NTF.no (by omega) ?_ | refine V.NTF.dec ?_ | refine V.NDraw.q (by exact rfl) (by kernel_rfl) ?_ | refine V.NApp.one (by first | omega | (simp; omega)) (by first | omega | (simp; omega)) ?_ | (refine V.NDraw.any (by kernel_rfl) ?_) | fail)
  all_goals (conv => whnf)
  exact NRet.mk_ [some 1] rfl ⟨rfl, rfl, trivial⟩ ⟨⟨rfl, rfl, rfl, Nat.one_pos, (by repeat' (first | exact rfl | exact Iff.rfl | exact trivial | exact (fun _ _ => rfl) | exact (fun _ h => absurd h (Nat.not_lt_zero _)) | refine ⟨?_, ?_⟩ | exact Iff.rfl | exact congrArg (fun z => V.SV.one (V.At.val (Value.int .i64 z))) (by omega)))⟩, trivial⟩
set_option maxHeartbeats 4000000 in
theorem v_penBegun : V.Fn Try.prog 13 [] [] (.bool true) := by
  have c0 := v_daily 3000 100000 100
  rw [show Pn.dV 3000 100000 100 = 3 by decide, show Pn.dE 3000 100000 100 = 0 by decide] at c0
  have c1 := v_day Ca.W Pn.cls [Pn.f1] Pn.tens 739937 (by decide) (by decide) (by decide)
  rw [Pn.y_1.1, Pn.y_1.2] at c1
  have c2 := v_psum Pn.d1 (by decide)
  rw [Pn.s_1.1, Pn.s_1.2] at c2
  have c3 := v_day Ca.W Pn.cls [] Pn.tens 739936 (by decide) (by decide) (by decide)
  rw [Pn.y_2.1, Pn.y_2.2] at c3
  have c4 := v_psum [] (by decide)
  rw [Pn.s_2.1, Pn.s_2.2] at c4
  have c5 := v_samedues Pn.d1 Pn.d1 (by decide)
  have c6 := v_sameposts [⟨1, 0, -3⟩, ⟨2, 0, 3⟩] [⟨1, 0, -3⟩, ⟨2, 0, 3⟩] (by decide)
  have c7 := v_prices [] (by decide)
  refine V.Fn.mk_ V.Tok V.mixed Try.func13 rfl Try.ntmps13 (by kernel_rfl) rfl rfl ?_
  repeat' ((conv => whnf); first | (refine V.NIf.yes ?_ ?_; · (decide; done)) | (refine V.NIf.no ?_ ?_; · (decide; done)) | refine V.NCond.mk ?_ | refine V.NIf.not_ ?_ | refine V.NIf.dec_ ?_ | refine V.NIf.no (by omega) ?_ | refine V.NIf.yes (by omega) ?_ | refine V.NIf.mk (fun _ => ?_) (fun _ => ?_) | refine V.NWrap.ok (by omega) (by omega) ?_ | refine V.NWrap.u64 (by omega) (by omega) ?_ | refine V.NLt.mk (by omega) ?_ | refine V.NBoth.mk ?_ ?_ | refine V.NTF.yes (by omega) ?_ | refine V.NTF.no (by omega) ?_ | refine V.NTF.dec ?_ | refine V.NDraw.q (by exact rfl) (by kernel_rfl) ?_ | refine V.NApp.one (by first | omega | (simp; omega)) (by first | omega | (simp; omega)) ?_ | (first | refine V.Fn.k0 (c0) rfl ?_ | refine V.Fn.q0 (c0) rfl ?_ | refine V.Fn.a0 (c0) rfl ?_) | (first | refine V.Fn.k0 (v_some) rfl ?_ | refine V.Fn.q0 (v_some) rfl ?_ | refine V.Fn.a0 (v_some) rfl ?_) | (first | refine V.FnR.k0 (v_week) rfl ?_ | refine V.FnR.a0 (v_week) rfl ?_) | (first | refine V.FnR.k0 (v_classes) rfl ?_ | refine V.FnR.a0 (v_classes) rfl ?_) | (first | refine V.FnR.k0 (v_tenEach) rfl ?_ | refine V.FnR.a0 (v_tenEach) rfl ?_) | ((first | refine V.FnR.k_ (c1) [1, 2, 3, 4] rfl ?_ ?_ | refine V.FnR.a_ (c1) [1, 2, 3, 4] rfl ?_ ?_); · ((repeat' (first | exact rfl | exact Iff.rfl | exact trivial | exact (fun _ _ => rfl) | exact (fun _ h => absurd h (Nat.not_lt_zero _)) | refine ⟨?_, ?_⟩ | exact Iff.rfl | exact congrArg (fun z => V.SV.one (V.At.val (Value.int .i64 z))) (by omega))); done)) | ((first | refine V.FnR.k_ (c1) [1, 2, 4, 3] rfl ?_ ?_ | refine V.FnR.a_ (c1) [1, 2, 4, 3] rfl ?_ ?_); · ((repeat' (first | exact rfl | exact Iff.rfl | exact trivial | exact (fun _ _ => rfl) | exact (fun _ h => absurd h (Nat.not_lt_zero _)) | refine ⟨?_, ?_⟩ | exact Iff.rfl | exact congrArg (fun z => V.SV.one (V.At.val (Value.int .i64 z))) (by omega))); done)) | ((first | refine V.FnR.k_ (c1) [1, 3, 2, 4] rfl ?_ ?_ | refine V.FnR.a_ (c1) [1, 3, 2, 4] rfl ?_ ?_); · ((repeat' (first | exact rfl | exact Iff.rfl | exact trivial | exact (fun _ _ => rfl) | exact (fun _ h => absurd h (Nat.not_lt_zero _)) | refine ⟨?_, ?_⟩ | exact Iff.rfl | exact congrArg (fun z => V.SV.one (V.At.val (Value.int .i64 z))) (by omega))); done)) | ((first | refine V.FnR.k_ (c1) [2, 3, 1, 4] rfl ?_ ?_ | refine V.FnR.a_ (c1) [2, 3, 1, 4] rfl ?_ ?_); · ((repeat' (first | exact rfl | exact Iff.rfl | exact trivial | exact (fun _ _ => rfl) | exact (fun _ h => absurd h (Nat.not_lt_zero _)) | refine ⟨?_, ?_⟩ | exact Iff.rfl | exact congrArg (fun z => V.SV.one (V.At.val (Value.int .i64 z))) (by omega))); done)) | ((first | refine V.FnR.k_ (c2) [5] rfl ?_ ?_ | refine V.FnR.a_ (c2) [5] rfl ?_ ?_); · ((repeat' (first | exact rfl | exact Iff.rfl | exact trivial | exact (fun _ _ => rfl) | exact (fun _ h => absurd h (Nat.not_lt_zero _)) | refine ⟨?_, ?_⟩ | exact Iff.rfl | exact congrArg (fun z => V.SV.one (V.At.val (Value.int .i64 z))) (by omega))); done)) | ((first | refine V.FnR.k_ (c3) [7, 8, 10, 9] rfl ?_ ?_ | refine V.FnR.a_ (c3) [7, 8, 10, 9] rfl ?_ ?_); · ((repeat' (first | exact rfl | exact Iff.rfl | exact trivial | exact (fun _ _ => rfl) | exact (fun _ h => absurd h (Nat.not_lt_zero _)) | refine ⟨?_, ?_⟩ | exact Iff.rfl | exact congrArg (fun z => V.SV.one (V.At.val (Value.int .i64 z))) (by omega))); done)) | ((first | refine V.FnR.k_ (c4) [12] rfl ?_ ?_ | refine V.FnR.a_ (c4) [12] rfl ?_ ?_); · ((repeat' (first | exact rfl | exact Iff.rfl | exact trivial | exact (fun _ _ => rfl) | exact (fun _ h => absurd h (Nat.not_lt_zero _)) | refine ⟨?_, ?_⟩ | exact Iff.rfl | exact congrArg (fun z => V.SV.one (V.At.val (Value.int .i64 z))) (by omega))); done)) | ((first | refine V.Fn.k (c5) [5, 14] rfl ?_ ?_ | refine V.Fn.q (c5) [5, 14] rfl ?_ ?_ | refine V.Fn.a (c5) [5, 14] rfl ?_ ?_); · ((repeat' (first | exact rfl | exact Iff.rfl | exact trivial | exact (fun _ _ => rfl) | exact (fun _ h => absurd h (Nat.not_lt_zero _)) | refine ⟨?_, ?_⟩ | exact Iff.rfl | exact congrArg (fun z => V.SV.one (V.At.val (Value.int .i64 z))) (by omega))); done)) | ((first | refine V.Fn.k (c6) [6, 15] rfl ?_ ?_ | refine V.Fn.q (c6) [6, 15] rfl ?_ ?_ | refine V.Fn.a (c6) [6, 15] rfl ?_ ?_); · ((repeat' (first | exact rfl | exact Iff.rfl | exact trivial | exact (fun _ _ => rfl) | exact (fun _ h => absurd h (Nat.not_lt_zero _)) | refine ⟨?_, ?_⟩ | exact Iff.rfl | exact congrArg (fun z => V.SV.one (V.At.val (Value.int .i64 z))) (by omega))); done)) | ((first | refine V.Fn.k (c7) [16] rfl ?_ ?_ | refine V.Fn.q (c7) [16] rfl ?_ ?_ | refine V.Fn.a (c7) [16] rfl ?_ ?_); · ((repeat' (first | exact rfl | exact Iff.rfl | exact trivial | exact (fun _ _ => rfl) | exact (fun _ h => absurd h (Nat.not_lt_zero _)) | refine ⟨?_, ?_⟩ | exact Iff.rfl | exact congrArg (fun z => V.SV.one (V.At.val (Value.int .i64 z))) (by omega))); done)) | (refine NCall.nil_ (f := 10) 2 10 rfl ?_) | (refine NCall.nil_ (f := 22) 0 3 rfl ?_) | (refine NCall.nil_ (f := 14) 0 1 rfl ?_) | (refine V.NDraw.any (by kernel_rfl) ?_) | fail)
  all_goals (conv => whnf)
  all_goals exact ⟨true, rfl, iff_of_true (by decide) rfl⟩
end Go.Proofs.Ytdeekpcfmgfmcaa

/- How a list of numbers is read off an argument. -/
namespace Go.Proofs.Ytdeekpcfmgfmcaa
set_option maxRecDepth 100000
open Go Go.RowKit Go.ChangeShapes Go.WideShapes Go.Deep V
theorem intCells : Try.prog.cellsOf 3 = 1 := by kernel_rfl
theorem open_il {H : Type} {enc : TypeId × Value → H} {W : World} {base : Nat} {spare : Nat → Bool} {held : Bool} {r : Reach} {b0 : Nat} {v : Value} {d : DataW H} {p : List MemPlace} (hv : Value.okWide Try.prog W r b0 22 v) (h : DataW.Trod enc Try.prog W base spare held 22 v d p) :
    ∃ l : List Int, ArrIs W v 1 l.length (ga e1 l) ∧ ∀ f ∈ l, (Lit.int .i64 f).wf = true :=
  open_ints_ Try.underlying22 Try.underlying3 intCells hv h
end Go.Proofs.Ytdeekpcfmgfmcaa

/- How a calendar is read off an argument. -/
namespace Go.Proofs.Ytdeekpcfmgfmcaa
open Go Go.RowKit Go.ChangeShapes Go.WideShapes Go.Deep V
set_option linter.unusedVariables false
set_option maxRecDepth 100000
namespace V
section
variable {H : Type} {enc : TypeId × Value → H} {P : Program} {w : World} {base : Nat} {spare : Nat → Bool} {held : Bool}
/-- a list of data, by its one cell -/
theorem list_trod {α : Type} [Inhabited α] {en : α → List Value} {Wf : α → Prop} {t e s fuel : Nat} {cs : List Value} {x : DataW H × List MemPlace} (hu : P.underlying t = some (.slice e)) (hs : P.cellsOf e = s) (hs0 : 0 < s)
    (hel : ∀ fuel cs x, DataW.trod enc P w base spare held fuel e cs = some x → ∃ f : α, cs = en f ∧ Wf f) (hf : DataW.trod enc P w base spare held fuel t cs = some x) :
    ∃ v, cs = [v] ∧ ∃ l : List α, ArrIs w v s l.length (ga en l) ∧ ∀ f ∈ l, Wf f := by
  rcases Go.Deep.open_slice hu hf with ⟨hcs, _⟩ | ⟨a, len', cap', m, n, D, Pl, hcs, _, hl, hm, hmm, _, hi⟩
  · exact ⟨_, hcs, [], ⟨none, 0, rfl, by simp, by simp, fun k hk => absurd hk (by simp)⟩, by simp⟩
  · refine ⟨_, hcs, ?_⟩
    have hml : len' ≤ m := by rw [hmm]; split <;> omega
    have all : ∀ i, i < len' → ∃ f : α, (en f).length = s ∧ (∀ j u, (en f)[j]? = some u → w.cell? (a.add (i * s + j)) = some u) ∧ Wf f := by
      intro i hi'
      obtain ⟨cs', hc, ht'⟩ := hi i (by omega)
      rw [hs] at hc
      obtain ⟨f, e, wf⟩ := hel _ _ _ ht'
      obtain ⟨_, hcl, hat⟩ := World.cells?_some hc
      refine ⟨f, by rw [← e]; exact hcl, fun j u hu => ?_, wf⟩
      rw [← e] at hu
      have hj : j < s := by have := (List.getElem?_eq_some_iff.1 hu).1; omega
      have h1 := hat j hj
      rw [add_of_add] at h1
      rw [h1]; exact hu
    obtain ⟨l, hl2, hp⟩ := list_of len' all
    refine ⟨l, ⟨some a, cap', by rw [hl2], by unfold maxLen at hm; omega, by omega, fun k hk => ?_⟩, fun f hf' => ?_⟩
    · obtain ⟨e1, e2, _⟩ := hp k hk
      rw [ga_at hk]
      have h0 : (en l[k])[0]? = some ((en l[k])[0]'(by omega)) := List.getElem?_eq_getElem _
      have := cell_lt (e2 0 _ h0)
      rw [block_of_add] at this
      exact ⟨a, rfl, this, e1, e2⟩
    · obtain ⟨i, hi', rfl⟩ := List.getElem_of_mem hf'
      exact (hp i hi').2.2
end
end V
noncomputable def clFields : Array Field := (match Try.prog.underlying 24 with | some (.struct fs) => fs | _ => #[])
theorem clStruct : Try.prog.underlying 24 = some (.struct clFields) := by kernel_rfl
theorem clCells : Try.prog.cellsOf 24 = 2 := by kernel_rfl
theorem ilCells : Try.prog.cellsOf 22 = 1 := by kernel_rfl
theorem cl0 : (clFields[0]?).map (fun f => (f.type, f.offset)) = some (3, 0) := by kernel_rfl
theorem cl1 : (clFields[1]?).map (fun f => (f.type, f.offset)) = some (22, 1) := by kernel_rfl
theorem clSize : clFields.size = 2 := by kernel_rfl
def WfCl (c : Cl) : Prop := (Lit.int .i64 c.we).wf = true ∧ ∀ n ∈ c.hs, (Lit.int .i64 n).wf = true
theorem cl_of {H : Type} {enc : TypeId × Value → H} {w : World} {base : Nat} {spare : Nat → Bool} {held : Bool} {fuel : Nat} {cs : List Value} {x : DataW H × List MemPlace} (h : DataW.trod enc Try.prog w base spare held fuel 24 cs = some x) :
    ∃ (c : Cl) (v : Value), cs = [.int .i64 c.we, v] ∧ ArrIs w v 1 c.hs.length (ga e1 c.hs) ∧ WfCl c := by
  obtain ⟨xs, n, _, _, hl, hlen, hg⟩ := DataW.trod_struct clStruct h
  rw [clCells] at hl
  rw [clSize] at hlen
  match cs, hl with
  | [a, b], _ =>
    obtain ⟨f0, h0, e0⟩ := Option.map_eq_some_iff.1 cl0
    obtain ⟨f1, h1, e1'⟩ := Option.map_eq_some_iff.1 cl1
    injection e0 with t0 o0
    injection e1' with t1 o1
    have g0 := hg 0 f0 h0
    have g1 := hg 1 f1 h1
    rw [o0, t0, intCells, List.getElem?_eq_getElem (by omega)] at g0
    rw [o1, t1, ilCells, List.getElem?_eq_getElem (by omega)] at g1
    obtain ⟨m, e2, _, wf⟩ := DataW.trod_int Try.underlying3 g0
    obtain ⟨v, e3, l, hl, wl⟩ := V.list_trod (en := e1) (Wf := fun n => (Lit.int .i64 n).wf = true) Try.underlying22 intCells (by omega) (fun fuel cs x hx => by
      obtain ⟨m, e2, _, wf⟩ := DataW.trod_int Try.underlying3 hx
      exact ⟨m, e2, wf⟩) g1
    have e2 : a = .int .i64 m := by simpa using e2
    obtain rfl : b = v := by
      have e3 : [b] = [v] := e3
      injection e3
    subst e2
    exact ⟨⟨m, l⟩, _, rfl, hl, wf, wl⟩
theorem open_cl {H : Type} {enc : TypeId × Value → H} {W : World} {base : Nat} {spare : Nat → Bool} {held : Bool} {r : Reach} {b0 : Nat} {v : Value} {d : DataW H} {p : List MemPlace} (hv : Value.okWide Try.prog W r b0 24 v) (h : DataW.Trod enc Try.prog W base spare held 24 v d p) :
    ∃ (c : Cl) (u : Value), v = .agg #[.int .i64 c.we, u] ∧ ArrIs W u 1 c.hs.length (ga e1 c.hs) ∧ WfCl c := by
  obtain ⟨cs, rfl, _⟩ := okWide_struct clStruct hv
  obtain ⟨fuel, hf⟩ := h
  obtain ⟨c, u, e, h1, wf⟩ := cl_of hf
  refine ⟨c, u, ?_, h1, wf⟩
  obtain ⟨l⟩ := cs
  simp only [Value.cells] at e
  subst e
  rfl
end Go.Proofs.Ytdeekpcfmgfmcaa

/- How a fail, and a list of fails, are read off the arguments. -/
namespace Go.Proofs.Ytdeekpcfmgfmcaa
set_option maxRecDepth 100000
open Go.RowKit Go.ChangeShapes Go.WideShapes Go.Deep V

noncomputable def failFields : Array Field := (match Try.prog.underlying 43 with | some (.struct fs) => fs | _ => #[])
theorem failStruct : Try.prog.underlying 43 = some (.struct failFields) := by kernel_rfl
theorem failOne : oneCellFields Try.prog failFields = true := by kernel_rfl
theorem failSize : failFields.size = 10 := by kernel_rfl
theorem failCells : Try.prog.cellsOf 43 = 10 := by kernel_rfl
theorem failInts : (List.range 10).all (fun j => (failFields[j]?).all (fun f => decide (f.type = 3))) = true := by kernel_rfl
theorem failInt (j : Nat) (f : Field) (h : failFields[j]? = some f) : Try.prog.underlying f.type = some (.int .i64) := by
  have hj : j < 10 := by have := (Array.getElem?_eq_some_iff.1 h).1; rw [failSize] at this; exact this
  have := List.all_eq_true.1 failInts j (List.mem_range.2 hj)
  rw [h] at this
  have e : f.type = 3 := by simpa using this
  rw [e]
  exact Try.underlying3
def WfF (f : Fl) : Prop := ∀ n ∈ [f.id, f.fr, f.to, f.cl, f.pa, f.day, f.un, f.de, f.bo, f.pd], (Lit.int .i64 n).wf = true
theorem fl_of {H : Type} {enc : TypeId × Value → H} {w : World} {base : Nat} {spare : Nat → Bool} {held : Bool} {fuel : Nat} {cs : List Value} {x : DataW H × List MemPlace} (h : DataW.trod enc Try.prog w base spare held fuel 43 cs = some x) :
    ∃ f : Fl, cs = (#[.int .i64 f.id, .int .i64 f.fr, .int .i64 f.to, .int .i64 f.cl, .int .i64 f.pa, .int .i64 f.day, .int .i64 f.un, .int .i64 f.de, .int .i64 f.bo, .int .i64 f.pd] : Array Value).toList ∧ WfF f := by
  obtain ⟨ns, e, hl, wf⟩ := ints_struct failStruct failOne (failCells.trans failSize.symm) failInt h
  rw [failSize] at hl
  match ns, hl with
  | [a, b, c, d, e', f, g, h', i, j], _ => exact ⟨⟨a, b, c, d, e', f, g, h', i, j⟩, by simpa using e, wf⟩
theorem open_fl {H : Type} {enc : TypeId × Value → H} {W : World} {base : Nat} {spare : Nat → Bool} {held : Bool} {r : Reach} {b0 : Nat} {v : Value} {d : DataW H} {p : List MemPlace} (hv : Value.okWide Try.prog W r b0 43 v) (h : DataW.Trod enc Try.prog W base spare held 43 v d p) :
    ∃ f : Fl, v = .agg #[.int .i64 f.id, .int .i64 f.fr, .int .i64 f.to, .int .i64 f.cl, .int .i64 f.pa, .int .i64 f.day, .int .i64 f.un, .int .i64 f.de, .int .i64 f.bo, .int .i64 f.pd] ∧ WfF f := by
  obtain ⟨cs, rfl, _⟩ := okWide_struct failStruct hv
  obtain ⟨fuel, hf⟩ := h
  obtain ⟨f, e, wf⟩ := fl_of hf
  refine ⟨f, ?_, wf⟩
  obtain ⟨l⟩ := cs
  simp only [Value.cells] at e
  subst e
  rfl
theorem open_fls {H : Type} {enc : TypeId × Value → H} {W : World} {base : Nat} {spare : Nat → Bool} {held : Bool} {r : Reach} {b0 : Nat} {v : Value} {d : DataW H} {p : List MemPlace} (hv : Value.okWide Try.prog W r b0 26 v) (h : DataW.Trod enc Try.prog W base spare held 26 v d p) :
    ∃ l : List Fl, ArrIs W v 10 l.length (ga encF l) ∧ ∀ f ∈ l, WfF f :=
  open_list Try.underlying26 failCells (by omega) (fun fuel cs x hx => by
    obtain ⟨f, e, wf⟩ := fl_of hx
    exact ⟨f, e, wf⟩) hv h
end Go.Proofs.Ytdeekpcfmgfmcaa

/- How a struct api.Terms, and a list of such, are read off an argument. -/
namespace Go.Proofs.Ytdeekpcfmgfmcaa
open Go Go.RowKit Go.ChangeShapes Go.WideShapes Go.Deep V
set_option linter.unusedVariables false
set_option maxRecDepth 100000
noncomputable def tmFields : Array Field := (match Try.prog.underlying 41 with | some (.struct fs) => fs | _ => #[])
theorem tmStruct : Try.prog.underlying 41 = some (.struct tmFields) := by kernel_rfl
theorem tmOne : oneCellFields Try.prog tmFields = true := by kernel_rfl
theorem tmSize : tmFields.size = 4 := by kernel_rfl
theorem tmCells : Try.prog.cellsOf 41 = 4 := by kernel_rfl
theorem tmInts : (List.range 4).all (fun j => (tmFields[j]?).all (fun f => decide (f.type = 3))) = true := by kernel_rfl
theorem tmInt (j : Nat) (f : Field) (h : tmFields[j]? = some f) : Try.prog.underlying f.type = some (.int .i64) := by
  have hj : j < 4 := by have := (Array.getElem?_eq_some_iff.1 h).1; rw [tmSize] at this; exact this
  have := List.all_eq_true.1 tmInts j (List.mem_range.2 hj)
  rw [h] at this
  have e : f.type = 3 := by simpa using this
  rw [e]
  exact Try.underlying3
def WfTm (d : Tm) : Prop := ∀ n ∈ [d.ex, d.bu, d.de, d.ra], (Lit.int .i64 n).wf = true
theorem tm_of {H : Type} {enc : TypeId × Value → H} {w : World} {base : Nat} {spare : Nat → Bool} {held : Bool} {fuel : Nat} {cs : List Value} {x : DataW H × List MemPlace} (h : DataW.trod enc Try.prog w base spare held fuel 41 cs = some x) :
    ∃ f : Tm, cs = encTm f ∧ WfTm f := by
  obtain ⟨ns, e, hl, wf⟩ := ints_struct tmStruct tmOne (tmCells.trans tmSize.symm) tmInt h
  rw [tmSize] at hl
  match ns, hl with
  | [a0, a1, a2, a3], _ => exact ⟨⟨a0, a1, a2, a3⟩, by simpa [encTm] using e, wf⟩
theorem open_tms {H : Type} {enc : TypeId × Value → H} {W : World} {base : Nat} {spare : Nat → Bool} {held : Bool} {r : Reach} {b0 : Nat} {v : Value} {d : DataW H} {p : List MemPlace} {t : Nat} (ht : Try.prog.underlying t = some (.slice 41)) (hv : Value.okWide Try.prog W r b0 t v) (h : DataW.Trod enc Try.prog W base spare held t v d p) :
    ∃ l : List Tm, ArrIs W v 4 l.length (ga encTm l) ∧ ∀ f ∈ l, WfTm f :=
  open_list ht tmCells (by omega) (fun fuel cs x hx => by
    obtain ⟨f, e, wf⟩ := tm_of hx
    exact ⟨f, e, wf⟩) hv h
end Go.Proofs.Ytdeekpcfmgfmcaa

/- Plain facts on what lateness costs: parts of a list, what is delivered, who is late, what can be posted. -/
namespace Go.Proofs.Ytdeekpcfmgfmcaa
set_option linter.unusedVariables false
set_option linter.unusedSimpArgs false
namespace Pn
theorem checks_take {l : List Fl} (k : Nat) (h : F.checks l = 0) : F.checks (l.take k) = 0 := by
  obtain ⟨a, b, c⟩ := K.checks_all h
  refine K.checks_of (by rw [List.length_take]; omega) (fun f hf => b f (List.mem_of_mem_take hf)) ?_
  rw [List.map_take]
  exact c.sublist (List.take_sublist _ _)
theorem checks_drop {l : List Fl} (k : Nat) (h : F.checks l = 0) : F.checks (l.drop k) = 0 := by
  obtain ⟨a, b, c⟩ := K.checks_all h
  refine K.checks_of (by rw [List.length_drop]; omega) (fun f hf => b f (List.mem_of_mem_drop hf)) ?_
  rw [List.map_drop]
  exact c.sublist (List.drop_sublist _ _)
theorem y_of {c : Cl} {t : List Tm} {l : List Fl} {ps : List Int} {n : Int} (R : Right c t l ps n) (h : ∀ f ∈ l, eF c t n f = 0) : yD c t l ps n = 0 ∧ yL c t l ps n = dus c t ps n l := y_yes (yE_of R) (fb_yes h)
theorem parts {c : Cl} {t : List Tm} {l : List Fl} {ps : List Int} {n : Int} (h : yD c t l ps n = 0) (k : Nat) :
    yD c t (l.take k) ps n = 0 ∧ yD c t (l.drop k) ps n = 0 ∧ yL c t l ps n = yL c t (l.take k) ps n ++ yL c t (l.drop k) ps n := by
  obtain ⟨R, a, e⟩ := y_ok h
  have h1 := y_of (l := l.take k) ⟨R.kc, R.kt, checks_take k R.kl, R.kp, R.ko⟩ fun f hf => a f (List.mem_of_mem_take hf)
  have h2 := y_of (l := l.drop k) ⟨R.kc, R.kt, checks_drop k R.kl, R.kp, R.ko⟩ fun f hf => a f (List.mem_of_mem_drop hf)
  refine ⟨h1.1, h2.1, ?_⟩
  rw [e, h1.2, h2.2]
  unfold dus
  rw [← List.flatMap_append, List.take_append_drop]
theorem yL_len (c : Cl) (t : List Tm) (l : List Fl) (ps : List Int) (n : Int) : (yL c t l ps n).length ≤ 60 := by
  by_cases h : yD c t l ps n = 0
  · obtain ⟨R, _, e⟩ := y_ok h
    rw [e]
    have := dus_len c t ps n l
    have := F.checks_len (l := l) (by have := R.kl; omega)
    omega
  · rw [show yL c t l ps n = [] from if_neg h]; decide
/-! one that is delivered -/
theorem dus_one (c : Cl) (t : List Tm) (ps : List Int) (n : Int) (f : Fl) : dus c t ps n [f] = du1 c t ps n f := by
  unfold dus; simp
theorem less_is {c : Cl} {t : List Tm} {f : Fl} {ps : List Int} {n u : Int} (h : yD c t [f] ps n = 0) (g : F.less f u = 0) :
    yD c t [F.addDe f u] ps n = 0 ∧ F.chk (F.addDe f u) = 0 ∧ (F.left (F.addDe f u) = 0 → yL c t [F.addDe f u] ps n = []) ∧
    (yL c t [F.addDe f u] ps n = [] ∨ ∃ q r, yL c t [F.addDe f u] ps n = [⟨f.fr, f.to, q⟩] ∧ yL c t [f] ps n = [⟨f.fr, f.to, r⟩] ∧ q ≤ r) := by
  obtain ⟨R, a, e⟩ := y_ok h
  have o := (F.deliver_ok g).1
  obtain ⟨of, l1, l2, l3⟩ := F.less_ok g
  have fc : F.chk (F.addDe f u) = 0 := F.chk_of o
  have k1 : F.checks [F.addDe f u] = 0 := K.checks_of (by simp) (by simpa using o) (by simp)
  have sf : Ag.sE c (cl t f) f n = 0 := a f (by simp)
  obtain ⟨s1, s2, s3, s4, s5⟩ := Ag.sE_ok sf
  have sp : Ag.sE c (cl t f) (F.addDe f u) n = 0 := Ag.sE_of s1 s2 fc s4 s5
  have y := y_of (l := [F.addDe f u]) (ps := ps) ⟨R.kc, R.kt, k1, R.kp, R.ko⟩ fun x hx => by
    rw [List.mem_singleton.1 hx]; exact sp
  have lt : F.left (F.addDe f u) = F.left f - u := by unfold F.left F.addDe; simp only; omega
  rw [dus_one] at y e
  have z : F.left (F.addDe f u) = 0 → du1 c t ps n (F.addDe f u) = [] := fun q => by
    refine du1_no fun w => ?_
    have := (late_iff sp).1 w.1
    have := (Ag.stg_is sp).1 q
    omega
  refine ⟨y.1, fc, fun q => y.2.trans (z q), ?_⟩
  rw [y.2, e]
  by_cases q : F.left (F.addDe f u) = 0
  · exact .inl (z q)
  by_cases w : Late (Ag.sV c (cl t (F.addDe f u)) (F.addDe f u) n) ∧ 0 < qF t ps (F.addDe f u)
  · refine .inr ⟨qF t ps (F.addDe f u), qF t ps f, du1_yes w.1 w.2, ?_, ?_⟩
    · have qk := qF_ok R.kt R.kp of
      have m : qF t ps (F.addDe f u) ≤ qF t ps f := cs_u (by omega) qk.2.1 qk.2.2.1
      refine du1_yes ?_ (by omega)
      rw [late_iff sf]
      have v := (late_iff sp).1 w.1
      have st : Ag.stg c (cl t f) (F.addDe f u) n = Ag.stg c (cl t f) f n := by
        unfold Ag.stg
        rw [if_neg q, if_neg (by omega)]
        rfl
      rw [← st]; exact v
    · have qk := qF_ok R.kt R.kp of
      exact cs_u (by omega) qk.2.1 qk.2.2.1
  · exact .inl (du1_no w)
/-! who is late -/
noncomputable def ln1 (c : Cl) (t : List Tm) (n : Int) (f : Fl) : Int := open Classical in if Late (Ag.sV c (cl t f) f n) then 1 else 0
noncomputable def ln (c : Cl) (t : List Tm) (n : Int) (l : List Fl) : Int := M.sum (l.map (ln1 c t n))
theorem ln_snoc {c : Cl} {t : List Tm} {n : Int} {l : List Fl} {k : Nat} (h : k < l.length) : ln c t n (l.take (k + 1)) = ln c t n (l.take k) + ln1 c t n (l.getD k default) := by
  unfold ln
  rw [List.take_succ_eq_append_getElem h, List.map_append, M.sum_append, ← getD_at h]
  simp [M.sum]
theorem ln1_yes {c : Cl} {t : List Tm} {n : Int} {f : Fl} (h : Late (Ag.sV c (cl t f) f n)) : ln1 c t n f = 1 := if_pos h
theorem ln1_no {c : Cl} {t : List Tm} {n : Int} {f : Fl} (h : ¬ Late (Ag.sV c (cl t f) f n)) : ln1 c t n f = 0 := if_neg h
theorem ln1_bd (c : Cl) (t : List Tm) (n : Int) (f : Fl) : 0 ≤ ln1 c t n f ∧ ln1 c t n f ≤ 1 := by
  unfold ln1; split <;> omega
theorem ln_bd (c : Cl) (t : List Tm) (n : Int) : ∀ l : List Fl, 0 ≤ ln c t n l ∧ ln c t n l ≤ l.length
  | [] => by simp [ln, M.sum]
  | f :: r => by
    have h := ln_bd c t n r
    have h2 := ln1_bd c t n f
    have e : ln c t n (f :: r) = ln1 c t n f + ln c t n r := rfl
    rw [e, List.length_cons]
    omega
theorem du_ln1 (c : Cl) (t : List Tm) (ps : List Int) (n : Int) (f : Fl) : ((du1 c t ps n f).length : Int) ≤ ln1 c t n f := by
  by_cases w : Late (Ag.sV c (cl t f) f n) ∧ 0 < qF t ps f
  · rw [du1_yes w.1 w.2, ln1_yes w.1]; simp
  · rw [du1_no w]; exact (ln1_bd c t n f).1
theorem du_ln (c : Cl) (t : List Tm) (ps : List Int) (n : Int) : ∀ l : List Fl, ((dus c t ps n l).length : Int) ≤ ln c t n l
  | [] => by simp [dus, ln, M.sum]
  | f :: r => by
    have h := du_ln c t ps n r
    have h2 := du_ln1 c t ps n f
    have e : ln c t n (f :: r) = ln1 c t n f + ln c t n r := rfl
    have e2 : dus c t ps n (f :: r) = du1 c t ps n f ++ dus c t ps n r := by unfold dus; rw [List.flatMap_cons]
    rw [e, e2, List.length_append]
    omega
theorem late_day {c : Cl} {t : Tm} {f : Fl} {n : Int} (h : Ag.sE c t f n = 0) (w : Late (Ag.sV c t f n)) : 0 < n := by
  have g := (late_iff h).1 w
  obtain ⟨s1, s2, s3, s4, s5⟩ := Ag.sE_ok h
  have fd := Ag.f_day s3
  unfold Ca.Day at fd
  by_cases z : F.left f = 0
  · have := (Ag.stg_is h).1 z; omega
  · have m := Ag.days s2 (Ag.f_day s3) s5
    apply Classical.byContradiction
    intro q
    have e : Ag.stg c t f n = 0 := by
      unfold Ag.stg Ag.one
      rw [if_neg z, if_neg (by omega), if_neg (by omega), if_neg (by omega), if_neg (by omega)]
      rfl
    omega
theorem ln_day {c : Cl} {t : List Tm} {n : Int} : ∀ {l : List Fl}, (∀ f ∈ l, eF c t n f = 0) → ¬ 0 < n → ln c t n l = 0
  | [], _, _ => rfl
  | f :: r, h, q => by
    have e : ln c t n (f :: r) = ln1 c t n f + ln c t n r := rfl
    rw [e, ln_day (fun x hx => h x (by simp [hx])) q, ln1_no fun w => q (late_day (h f (by simp)) w)]
    rfl
theorem du_from {c : Cl} {t : List Tm} {ps : List Int} {n : Int} {l : List Fl} {d : Du} (h : d ∈ dus c t ps n l) : (∃ f ∈ l, f.fr = d.fr ∧ f.to = d.to) ∧ 1 ≤ d.am := by
  unfold dus at h
  obtain ⟨f, hf, hd⟩ := List.mem_flatMap.1 h
  by_cases w : Late (Ag.sV c (cl t f) f n) ∧ 0 < qF t ps f
  · rw [du1_yes w.1 w.2, List.mem_singleton] at hd
    subst hd
    exact ⟨⟨f, hf, rfl, rfl⟩, by have := w.2; show 1 ≤ qF t ps f; omega⟩
  · rw [du1_no w] at hd; simp at hd
end Pn
end Go.Proofs.Ytdeekpcfmgfmcaa

/- A contract over an empty list, of a call that is handed nil. -/
namespace Go.Proofs.Ytdeekpcfmgfmcaa.V
open Go Go.RowKit
set_option linter.unusedVariables false
/-- nil in the place of object n -/
def aN (n : Nat) : At → At
  | .ref j => if j = n then .val (.slice none 0 0) else .ref j
  | a => a
def aNok (n : Nat) : At → Bool
  | .ptr i _ _ _ => i != n
  | .clo _ _ => false
  | _ => true
def rN (n : Nat) (ρ : Rho) : Rho := fun i => if i = n then some (.slice none 0 0) else ρ i
theorem At.nil_ {n : Nat} {ρ : Rho} {a : At} {x : Value} (hk : aNok n a = true) (h : (aN n a).is ρ x) : a.is (rN n ρ) x := by
  cases a with
  | val v => exact h
  | tf b => exact h
  | prop p => exact h
  | clo f c => cases hk
  | ptr i k j s =>
    have hne : i ≠ n := by simpa [aNok] using hk
    obtain ⟨b, e, q⟩ := h
    refine ⟨b, ?_, q⟩
    unfold base rN at *
    rw [if_neg hne]; exact e
  | ref i =>
    by_cases e : i = n
    · have h : (aN n (.ref i)).is ρ x := h
      rw [show aN n (.ref i) = .val (.slice none 0 0) from if_pos e] at h
      have h : x = .slice none 0 0 := h
      subst h
      exact ⟨if_pos e, rfl⟩
    · have h : (aN n (.ref i)).is ρ x := h
      rw [show aN n (.ref i) = .ref i from if_neg e] at h
      exact ⟨(if_neg e).trans h.1, h.2⟩
theorem Ats.nil_ {n : Nat} {ρ : Rho} : ∀ {l : List At} {xs : List Value}, l.all (aNok n) = true → Ats ρ (l.map (aN n)) xs → Ats (rN n ρ) l xs
  | [], _, _, h => h
  | a :: l, _, hk, ⟨x, r, e, h, hr⟩ => by
    simp only [List.all_cons, Bool.and_eq_true] at hk
    exact ⟨x, r, e, At.nil_ hk.1 h, Ats.nil_ hk.2 hr⟩
/-- an append, told as a list -/
theorem NApp.to_ {α : Type} [Inhabited α] {en : α → List Value} {n m : Nat} (l' : List α) {get news : Nat → List Value} {bytes : Nat} {K : Nat → (Nat → List Value) → Prop} (h : n + m = l'.length) (hb : l'.length ≤ 9223372036854775807) (hr : l'.length * bytes ≤ 140737488355328) (h1 : ∀ k, k < n → ga en l' k = get k) (h2 : ∀ k, k < m → ga en l' (n + k) = news k) (hK : K l'.length (ga en l')) : NApp n m get news bytes K :=
  ⟨⟨_, _, h.symm, hb, hr, h1, h2, hK⟩⟩
theorem ga_take {α : Type} [Inhabited α] {en : α → List Value} {l : List α} {i k : Nat} (h : k < i) (hl : i ≤ l.length) : ga en (l.take i) k = ga en l k := by
  rw [ga_at (by rw [List.length_take]; omega), ga_at (by omega), List.getElem_take]
theorem ga_left {α : Type} [Inhabited α] {en : α → List Value} {l r : List α} {k : Nat} (h : k < l.length) : ga en (l ++ r) k = ga en l k := by
  rw [ga_at (by simp; omega), ga_at h, List.getElem_append_left h]
theorem ga_right {α : Type} [Inhabited α] {en : α → List Value} {l r : List α} {n k : Nat} (hn : n = l.length) (h : k < r.length) : ga en (l ++ r) (n + k) = ga en r k := by
  subst hn
  rw [ga_at (by simp; omega), ga_at h, List.getElem_append_right (by omega)]
  congr 2
  omega
theorem ga_drop {α : Type} [Inhabited α] {en : α → List Value} {l : List α} {i k : Nat} (h : i + k < l.length) : ga en (l.drop i) k = ga en l (i + k) := by
  rw [ga_at (by simp; omega), ga_at h, List.getElem_drop]
end Go.Proofs.Ytdeekpcfmgfmcaa.V
