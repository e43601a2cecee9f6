/- Shared texts, one behind the other: VPen, VPen4, NetPl2, PenPl4, PenPl3, VFam, StPl, StQ, StQ2, StQ3, StQ4, StQ5, StQ6, StQ7, VOr, StP, StP2, StP3, StP4, StP5, StP6, VFam2, LotPl, VSame, BookPl2, VBook, VBook2, VBook3, VBook4, VGrow, VNil, BookPl3 -/
import Derived.Sort.LotA
import Derived.Shelf.Spec.SlicesGrow
import Derived.Test.YtpanlcnoopmchaaGreatX1
import Derived.Test.YtpanlcnoopmchaaGreatX2
import Derived.Test.YtpanlcnoopmchaaGreatX3
import Derived.Test.YtpanlcnoopmchaaGreatX4
set_option linter.unusedVariables false
set_option linter.unusedSimpArgs false
set_option maxRecDepth 100000

namespace Go.Proofs.YtpanlcnoopmchaaGreat
open Go Go.RowKit V
theorem fin_ii {x y u v : Int} (h1 : u = x) (h2 : v = y) : Fin1 (.one (.val (.int .i64 x))) (.int .i64 u) ∧ FinL [.one (.val (.int .i64 y))] [.int .i64 v] := ⟨V.fin1 h1, V.fin1 h2, trivial⟩
namespace Pn
theorem cost_yes {u p : Int} (hu : 0 ≤ u ∧ u ≤ 1073741824) (hp : P.Ok p) : M.prE u p 10000 = 0 ∧ M.prQ u p 10000 = P.cost u p := by
  have b := P.cost_bd hu hp
  have hp' := hp
  unfold P.Ok at hp'
  have k : M.POk u p 10000 := ⟨by unfold M.Amt; omega, hp', by omega⟩
  have a : M.Amt (u * p / 10000) := by unfold P.cost at b; unfold M.Amt; omega
  exact ⟨(M.pr_3 k a).1, (M.pr_3 k a).2.1⟩
theorem cost_no {u p : Int} (hp : ¬ P.Ok p) : M.prE u p 10000 = 3 := (M.pr_1 fun k => hp k.2.1).1
end Pn
theorem v_daily (u p r : Int) : V.Fn Tryz.prog 141 [] [.one (.val (.int .i64 u)), .one (.val (.int .i64 p)), .one (.val (.int .i64 r))] (.tuple #[.int .i64 (Pn.dV u p r), .int .i64 (Pn.dE u p r)]) := by
  refine V.Fn.mk_ V.Tok V.mixed Tryz.func141 rfl Tryz.ntmps141 (by kernel_rfl) rfl rfl ?_
  repeat' ((conv => whnf); first | refine V.NCond.mk ?_ | refine V.NPick.l ?_ | refine V.NIf.not_ ?_ | refine V.NIf.dec_ ?_ | refine V.a4 ?_ | refine V.a5 ?_ | refine V.NIf.mk (fun _ => ?_) (fun _ => ?_) | refine V.a7 ?_ | refine V.a8 ?_ | refine V.a9 ?_ | refine V.NBoth.mk ?_ ?_ | refine V.b1 ?_ | refine V.b2 ?_ | refine V.NTF.dec ?_ | refine V.b3 ?_ | refine V.b4 ?_ | (first | refine V.Fn.k0 (v_cost _ _) rfl ?_ | refine V.Fn.q0 (v_cost _ _) rfl ?_ | refine V.Fn.a0 (v_cost _ _) rfl ?_) | (first | refine V.Fn.k0 (v_part _ _ _) rfl ?_ | refine V.Fn.q0 (v_part _ _ _) rfl ?_ | refine V.Fn.a0 (v_part _ _ _) rfl ?_) | (refine V.NDraw.any (by kernel_rfl) ?_) | fail)
  all_goals (conv => whnf)
  iterate 4
    · have n : ¬ Pn.Ok u p r := fun k => by obtain ⟨a, _, b⟩ := k; omega
      exact fin_ii (Pn.d_no n).2 (Pn.d_no n).1
  · have pk : P.Ok p := Classical.byContradiction fun n => by have := Pn.cost_no (u := u) n; omega
    have k : Pn.Ok u p r := ⟨by omega, pk, by omega⟩
    rw [(Pn.cost_yes k.1 pk).2]
    exact fin_ii ((Pn.d_yes k).2.trans (Pn.cs_part k).2.symm) ((Pn.d_yes k).1.trans (Pn.cs_part k).1.symm)
  · have pk : ¬ P.Ok p := fun k => by have := (Pn.cost_yes (u := u) (by omega) k).1; omega
    have n : ¬ Pn.Ok u p r := fun k => pk k.2.1
    exact fin_ii (Pn.d_no n).2 ((Pn.d_no n).1.trans (Pn.cost_no pk).symm)
theorem v_rdaily (u p r : Int) : V.Fn Tryz.prog 107 [] [.one (.val (.int .i64 u)), .one (.val (.int .i64 p)), .one (.val (.int .i64 r))] (.tuple #[.int .i64 (Pn.dV u p r), .int .i64 (Pn.dE u p r)]) := by
  refine V.Fn.mk_ V.Tok V.mixed Tryz.func107 rfl Tryz.ntmps107 (by kernel_rfl) rfl rfl ?_
  repeat' ((conv => whnf); first | refine V.NCond.mk ?_ | refine V.NPick.l ?_ | refine V.NIf.not_ ?_ | refine V.NIf.dec_ ?_ | refine V.a4 ?_ | refine V.a5 ?_ | refine V.NIf.mk (fun _ => ?_) (fun _ => ?_) | refine V.a7 ?_ | refine V.a8 ?_ | refine V.a9 ?_ | refine V.NBoth.mk ?_ ?_ | refine V.b1 ?_ | refine V.b2 ?_ | refine V.NTF.dec ?_ | refine V.b3 ?_ | refine V.b4 ?_ | (first | refine V.Fn.k0 (v_rbetween _ _ _) rfl ?_ | refine V.Fn.q0 (v_rbetween _ _ _) rfl ?_ | refine V.Fn.a0 (v_rbetween _ _ _) rfl ?_) | (first | refine V.Fn.k0 (v_rpcheck _) rfl ?_ | refine V.Fn.q0 (v_rpcheck _) rfl ?_ | refine V.Fn.a0 (v_rpcheck _) rfl ?_) | (first | refine V.Fn.k0 (v_rpart _ _ _) rfl ?_ | refine V.Fn.q0 (v_rpart _ _ _) rfl ?_ | refine V.Fn.a0 (v_rpart _ _ _) rfl ?_) | (refine V.NDraw.any (by kernel_rfl) ?_) | fail)
  all_goals (conv => whnf)
  · have pk : P.Ok p := Classical.byContradiction fun n => by have := Pn.cost_no (u := u) n; omega
    have k : Pn.Ok u p r := ⟨by omega, pk, by omega⟩
    rw [(Pn.cost_yes k.1 pk).2]
    exact fin_ii ((Pn.d_yes k).2.trans (Pn.cs_part k).2.symm) ((Pn.d_yes k).1.trans (Pn.cs_part k).1.symm)
  · have pk : ¬ P.Ok p := fun k => by have := (Pn.cost_yes (u := u) (by omega) k).1; omega
    have n : ¬ Pn.Ok u p r := fun k => pk k.2.1
    exact fin_ii (Pn.d_no n).2 ((Pn.d_no n).1.trans (Pn.cost_no pk).symm)
  · have n : ¬ Pn.Ok u p r := fun k => by have := P.chk_yes k.2.1; omega
    exact fin_ii (Pn.d_no n).2 (Pn.d_no n).1
  · have n : ¬ Pn.Ok u p r := fun k => by obtain ⟨a, _, b⟩ := k; omega
    exact fin_ii (Pn.d_no n).2 (Pn.d_no n).1
  · have n : ¬ Pn.Ok u p r := fun k => by obtain ⟨a, _, b⟩ := k; omega
    exact fin_ii (Pn.d_no n).2 (Pn.d_no n).1
theorem v_pterms (t : List Tm) (hn : t.length ≤ 9223372036854775807) : V.Fn Tryz.prog 57 [.arr 4 t.length (ga encTm t)] [.one (.ref 0)] (.int .i64 (Pn.tE t)) := by
  refine V.Fn.mk_ V.Tok V.mixed Tryz.func57 rfl Tryz.ntmps57 (by kernel_rfl) rfl rfl ?_
  repeat' ((conv => whnf); first | refine V.NCond.mk ?_ | refine V.NPick.l ?_ | refine V.NIf.not_ ?_ | refine V.NIf.dec_ ?_ | refine V.a4 ?_ | refine V.a5 ?_ | refine V.NIf.mk (fun _ => ?_) (fun _ => ?_) | refine V.a7 ?_ | refine V.a8 ?_ | refine V.a9 ?_ | refine V.NBoth.mk ?_ ?_ | refine V.b1 ?_ | refine V.b2 ?_ | refine V.NTF.dec ?_ | refine V.b3 ?_ | refine V.b4 ?_ | (refine V.NDraw.any (by kernel_rfl) ?_) | fail)
  all_goals (conv => whnf)
  rotate_left
  · exact V.fin1 (Pn.tE_len (by omega))
  refine V.NLoop.auto (fun (k : Nat) => [(11, .one (.val (.int .i64 k)))]) (fun (k : Nat) => []) [] [] (fun (k : Nat) => t.length - k) (fun (k : Nat) => k ≤ t.length ∧ ∀ x ∈ t.take k, Ag.Wi x) 0 ⟨by omega, by simp⟩ V.S_ V.S_ (fun _ => ⟨rfl, rfl⟩) ?_; (conv => whnf); refine ⟨⟨rfl, rfl⟩, ?_⟩
  rintro k ⟨hk, hJ⟩
  repeat' ((conv => whnf); first | refine V.NCond.mk ?_ | refine V.NPick.l ?_ | refine V.NIf.not_ ?_ | refine V.NIf.dec_ ?_ | refine V.a4 ?_ | refine V.a5 ?_ | refine V.NIf.mk (fun _ => ?_) (fun _ => ?_) | refine V.a7 ?_ | refine V.a8 ?_ | refine V.a9 ?_ | refine V.NBoth.mk ?_ ?_ | refine V.b1 ?_ | refine V.b2 ?_ | refine V.NTF.dec ?_ | refine V.b3 ?_ | refine V.b4 ?_ | (refine NIdx.mk ⟨_, rfl, by omega, ?_⟩) | (first | refine V.Fn.k0 (v_agCheck _) rfl ?_ | refine V.Fn.q0 (v_agCheck _) rfl ?_ | refine V.Fn.a0 (v_agCheck _) rfl ?_) | (refine V.NDraw.any (by kernel_rfl) ?_) | fail)
  all_goals (conv => whnf)
  · exact V.NBack.at_ (k + 1) [] ⟨by omega, all_snoc (by omega) hJ (Ag.tchk_ok (by assumption))⟩ (by omega) V.S_ rfl V.S_ V.S_ V.S_
  · have n : ¬ Ag.Wi (t.getD k default) := fun h => absurd (show Ag.tchk (t.getD k default) = 0 from if_pos h) (by assumption)
    exact V.fin1 ((Pn.tE_bad (by omega) (getD_mem (by omega)) n).trans (show Ag.tchk (t.getD k default) = 3 from if_neg n).symm)
  · exact V.fin1 (Pn.tE_of (by omega) fun x hx => hJ x (by rw [List.take_of_length_le (by omega)]; exact hx))
theorem v_rterms (t : List Tm) (hn : t.length ≤ 9223372036854775807) : V.Fn Tryz.prog 59 [.arr 4 t.length (ga encTm t)] [.one (.ref 0)] (.int .i64 (Pn.tE t)) := by
  refine V.Fn.mk_ V.Tok V.mixed Tryz.func59 rfl Tryz.ntmps59 (by kernel_rfl) rfl rfl ?_
  repeat' ((conv => whnf); first | refine V.NCond.mk ?_ | refine V.NPick.l ?_ | refine V.NIf.not_ ?_ | refine V.NIf.dec_ ?_ | refine V.a4 ?_ | refine V.a5 ?_ | refine V.NIf.mk (fun _ => ?_) (fun _ => ?_) | refine V.a7 ?_ | refine V.a8 ?_ | refine V.a9 ?_ | refine V.NBoth.mk ?_ ?_ | refine V.b1 ?_ | refine V.b2 ?_ | refine V.NTF.dec ?_ | refine V.b3 ?_ | refine V.b4 ?_ | (refine V.NDraw.any (by kernel_rfl) ?_) | fail)
  all_goals (conv => whnf)
  rotate_left
  · exact V.fin1 (Pn.tE_len (by omega))
  refine V.NLoop.auto (fun (k : Nat) => [(3, .one (.val (.int .i64 k)))]) (fun (k : Nat) => []) [] [] (fun (k : Nat) => t.length - k) (fun (k : Nat) => k ≤ t.length ∧ ∀ x ∈ t.take k, Ag.Wi x) 0 ⟨by omega, by simp⟩ V.S_ V.S_ (fun _ => ⟨rfl, rfl⟩) ?_; (conv => whnf); refine ⟨⟨rfl, rfl⟩, ?_⟩
  rintro k ⟨hk, hJ⟩
  repeat' ((conv => whnf); first | refine V.NCond.mk ?_ | refine V.NPick.l ?_ | refine V.NIf.not_ ?_ | refine V.NIf.dec_ ?_ | refine V.a4 ?_ | refine V.a5 ?_ | refine V.NIf.mk (fun _ => ?_) (fun _ => ?_) | refine V.a7 ?_ | refine V.a8 ?_ | refine V.a9 ?_ | refine V.NBoth.mk ?_ ?_ | refine V.b1 ?_ | refine V.b2 ?_ | refine V.NTF.dec ?_ | refine V.b3 ?_ | refine V.b4 ?_ | (refine NIdx.mk ⟨_, rfl, by omega, ?_⟩) | (first | refine V.Fn.k0 (v_rtmCheck _) rfl ?_ | refine V.Fn.q0 (v_rtmCheck _) rfl ?_ | refine V.Fn.a0 (v_rtmCheck _) rfl ?_) | (refine V.NDraw.any (by kernel_rfl) ?_) | fail)
  all_goals (conv => whnf)
  · exact V.NBack.at_ (k + 1) [] ⟨by omega, all_snoc (by omega) hJ (Ag.tchk_ok (by assumption))⟩ (by omega) V.S_ rfl V.S_ V.S_ V.S_
  · have n : ¬ Ag.Wi (t.getD k default) := fun h => absurd (show Ag.tchk (t.getD k default) = 0 from if_pos h) (by assumption)
    exact V.fin1 (Pn.tE_bad (by omega) (getD_mem (by omega)) n)
  · exact V.fin1 (Pn.tE_of (by omega) fun x hx => hJ x (by rw [List.take_of_length_le (by omega)]; exact hx))
theorem v_popen (c : Cl) (n : Int) (hn : c.hs.length ≤ 9223372036854775807) : V.Fn Tryz.prog 140 [.arr 1 c.hs.length (ga e1 c.hs)] [.agg [.val (.int .i64 c.we), .ref 0], .one (.val (.int .i64 n))] (.int .i64 (Pn.oE c n)) := by
  refine V.Fn.mk_ V.Tok V.mixed Tryz.func140 rfl Tryz.ntmps140 (by kernel_rfl) rfl rfl ?_
  repeat' ((conv => whnf); first | refine V.NCond.mk ?_ | refine V.NPick.l ?_ | refine V.NIf.not_ ?_ | refine V.NIf.dec_ ?_ | refine V.a4 ?_ | refine V.a5 ?_ | refine V.NIf.mk (fun _ => ?_) (fun _ => ?_) | refine V.a7 ?_ | refine V.a8 ?_ | refine V.a9 ?_ | refine V.NBoth.mk ?_ ?_ | refine V.b1 ?_ | refine V.b2 ?_ | refine V.NTF.dec ?_ | refine V.b3 ?_ | refine V.b4 ?_ | ((first | refine V.Fn.k (v_caIs c n hn) [0] rfl ?_ ?_ | refine V.Fn.q (v_caIs c n hn) [0] rfl ?_ ?_ | refine V.Fn.a (v_caIs c n hn) [0] rfl ?_ ?_); · exact V.D_) | (refine V.NDraw.any (by kernel_rfl) ?_) | fail)
  all_goals (conv => whnf)
  · exact V.fin1 ((if_neg (by omega)).trans ((if_pos (by unfold Ca.isV; simp; assumption)).trans (by omega)))
  · exact V.fin1 ((if_neg (by omega)).trans (if_neg (by unfold Ca.isV; rw [decide_eq_true_iff]; assumption)))
  · exact V.fin1 (if_pos (by assumption))
namespace Pn
theorem oE_yes {c : Cl} {n : Int} (h : Ca.chk c = 0) (k : Ca.Day n ∧ Ca.op c n = 1) : oE c n = 0 := by
  have e := Ca.e1_of h k.1
  exact (if_neg (by omega)).trans (if_pos (by unfold Ca.isV; rw [decide_eq_true_iff]; exact ⟨e, k.2⟩))
theorem oE_4 {c : Cl} {n : Int} (h : Ca.chk c = 0) (d : Ca.Day n) (k : ¬ (Ca.Day n ∧ Ca.op c n = 1)) : oE c n = 4 := by
  have e := Ca.e1_of h d
  exact (if_neg (by omega)).trans (if_neg (by unfold Ca.isV; rw [decide_eq_true_iff]; exact fun z => k ⟨d, z.2⟩))
theorem oE_3 {c : Cl} {n : Int} (h : Ca.chk c = 0) (d : ¬ Ca.Day n) : oE c n = 3 := by
  have e := Ca.e1_2 h d
  exact (if_pos (by omega)).trans e
end Pn
abbrev penO (c : Cl) (t : List Tm) (l : List Fl) (ps : List Int) : List Ob := [.arr 1 c.hs.length (ga e1 c.hs), .arr 4 t.length (ga encTm t), .arr 10 l.length (ga encF l), .arr 1 ps.length (ga e1 ps)]
theorem v_rdayerr (c : Cl) (t : List Tm) (l : List Fl) (ps : List Int) (n : Int) (hc : c.hs.length ≤ 9223372036854775807) (ht : t.length ≤ 9223372036854775807) (hp : ps.length ≤ 9223372036854775807) : V.Fn Tryz.prog 105 (penO c t l ps) [.agg [.val (.int .i64 c.we), .ref 0], .one (.ref 1), .one (.ref 2), .one (.ref 3), .one (.val (.int .i64 n))] (.int .i64 (Pn.yE c t l ps n)) := by
  refine V.Fn.mk_ V.Tok V.mixed Tryz.func105 rfl Tryz.ntmps105 (by kernel_rfl) rfl rfl ?_
  repeat' ((conv => whnf); first | refine V.NCond.mk ?_ | refine V.NPick.l ?_ | refine V.NIf.not_ ?_ | refine V.NIf.dec_ ?_ | refine V.a4 ?_ | refine V.a5 ?_ | refine V.NIf.mk (fun _ => ?_) (fun _ => ?_) | refine V.a7 ?_ | refine V.a8 ?_ | refine V.a9 ?_ | refine V.NBoth.mk ?_ ?_ | refine V.b1 ?_ | refine V.b2 ?_ | refine V.NTF.dec ?_ | refine V.b3 ?_ | refine V.b4 ?_ | ((first | refine V.Fn.k (v_rcaCheck c hc) [0] rfl ?_ ?_ | refine V.Fn.q (v_rcaCheck c hc) [0] rfl ?_ ?_ | refine V.Fn.a (v_rcaCheck c hc) [0] rfl ?_ ?_); · exact V.D_) | ((first | refine V.Fn.k (v_rterms t ht) [1] rfl ?_ ?_ | refine V.Fn.q (v_rterms t ht) [1] rfl ?_ ?_ | refine V.Fn.a (v_rterms t ht) [1] rfl ?_ ?_); · exact V.D_) | ((first | refine V.Fn.k (v_rfchecks l) [2] rfl ?_ ?_ | refine V.Fn.q (v_rfchecks l) [2] rfl ?_ ?_ | refine V.Fn.a (v_rfchecks l) [2] rfl ?_ ?_); · exact V.D_) | ((first | refine V.Fn.k (v_rprices ps hp) [3] rfl ?_ ?_ | refine V.Fn.q (v_rprices ps hp) [3] rfl ?_ ?_ | refine V.Fn.a (v_rprices ps hp) [3] rfl ?_ ?_); · exact V.D_) | (first | refine V.Fn.k0 (v_rbetween _ _ _) rfl ?_ | refine V.Fn.q0 (v_rbetween _ _ _) rfl ?_ | refine V.Fn.a0 (v_rbetween _ _ _) rfl ?_) | ((first | refine V.Fn.k (v_business c n (Ca.chk_ok (by omega))) [0] rfl ?_ ?_ | refine V.Fn.q (v_business c n (Ca.chk_ok (by omega))) [0] rfl ?_ ?_ | refine V.Fn.a (v_business c n (Ca.chk_ok (by omega))) [0] rfl ?_ ?_); · exact V.D_) | (refine V.NDraw.any (by kernel_rfl) ?_) | fail)
  all_goals (conv => whnf)
  · exact V.fin1 (by rw [Pn.yE_5 (by assumption) (by assumption) (by assumption) (by assumption), Pn.oE_yes (by assumption) (by assumption)]; exact (Eq.symm (by assumption)))
  · exact V.fin1 (by rw [Pn.yE_5 (by assumption) (by assumption) (by assumption) (by assumption), Pn.oE_4 (by assumption) (by assumption) (by assumption)])
  · exact V.fin1 (by rw [Pn.yE_5 (by assumption) (by assumption) (by assumption) (by assumption), Pn.oE_3 (by assumption) (by assumption)])
  · exact V.fin1 (Pn.yE_4 (by assumption) (by assumption) (by assumption) (by assumption))
  · exact V.fin1 (Pn.yE_3 (by assumption) (by assumption) (by assumption))
  · exact V.fin1 (Pn.yE_2 (by assumption) (by assumption))
  · exact V.fin1 (Pn.yE_1 (by assumption))
end Go.Proofs.YtpanlcnoopmchaaGreat

namespace Go.Proofs.YtpanlcnoopmchaaGreat
open Go Go.RowKit V
namespace Pn
def po (p : Nat) (n : Int) : List Po := if n = 0 then [] else [⟨p, 0, n⟩]
def pos (s : List Int) (k : Nat) : List Po := (List.range k).flatMap fun p => po p (s.getD p default)
theorem pos_snoc (s : List Int) (k : Nat) : pos s (k + 1) = pos s k ++ po k (s.getD k default) := by
  unfold pos; rw [List.range_succ, List.flatMap_append]; simp
theorem pos_len (s : List Int) : ∀ k, (pos s k).length ≤ k
  | 0 => by simp [pos]
  | k + 1 => by
    have h := pos_len s k
    rw [pos_snoc, List.length_append]
    have : (po k (s.getD k default)).length ≤ 1 := by unfold po; split <;> simp
    omega
theorem po_yes {p : Nat} {n : Int} (h : n ≠ 0) : po p n = [⟨p, 0, n⟩] := if_neg h
theorem po_no {p : Nat} {n : Int} (h : n = 0) : po p n = [] := if_pos h
def suE (l : List Du) : Int := if Nt.stE l ≠ 0 then Nt.stE l else if (pos (Nt.st l) 31).length = 0 then 5 else 0
def suL (l : List Du) : List Po := if suE l = 0 then pos (Nt.st l) 31 else []
end Pn
theorem v_psum (l : List Du) (hn : l.length ≤ 9223372036854775807) : V.FnR Tryz.prog 100 [.arr 3 l.length (ga encD l)] [.one (.ref 0)] (.tup [.one (.ref 1), .one (.val (.int .i64 (Pn.suE l)))]) [.row 65 3 (Pn.suL l).length (ga encP (Pn.suL l))] := by
  refine V.FnR.mk_ V.Tok V.mixed Tryz.func100 rfl Tryz.ntmps100 (by kernel_rfl) rfl rfl rfl rfl ?_
  repeat' ((conv => whnf); first | refine V.NCond.mk ?_ | refine V.NPick.l ?_ | refine V.NIf.not_ ?_ | refine V.NIf.dec_ ?_ | refine V.a4 ?_ | refine V.a5 ?_ | refine V.NIf.mk (fun _ => ?_) (fun _ => ?_) | refine V.a7 ?_ | refine V.a8 ?_ | refine V.a9 ?_ | refine V.NBoth.mk ?_ ?_ | refine V.b1 ?_ | refine V.b2 ?_ | refine V.NTF.dec ?_ | refine V.b3 ?_ | refine V.b4 ?_ | ((first | refine V.FnR.k_ (v_stand l hn) [0] rfl ?_ ?_ | refine V.FnR.a_ (v_stand l hn) [0] rfl ?_ ?_); · exact V.D_) | (refine V.NDraw.any (by kernel_rfl) ?_) | fail)
  all_goals (conv => whnf)
  rotate_left
  · have e : Pn.suE l = Nt.stE l := if_pos (by assumption)
    rw [show Pn.suL l = [] from if_neg (by rw [e]; assumption), e]
    (first | exact V.er 0 | exact V.er 1 | exact V.er 2 | exact V.er 3 | exact V.er 4 | exact V.er 5 | exact V.er 6 | exact V.er 7 | exact V.er 8 | exact V.er 9 | exact V.er 10 | exact V.er 11 | exact V.er 12 | exact V.er 13 | exact V.er 14 | exact V.er 15 | exact V.er 16 | exact V.er 17)
  have h0 : Nt.stE l = 0 := by assumption
  have s31 : (Nt.st l).length = 31 := by rw [show Nt.st l = Nt.sums l 31 from if_pos h0]; simp [Nt.sums]
  refine V.NLoop.auto (fun (k : Nat) => [(19, .one (.val (.int .i64 k))), (6, .one (.ref 3))]) (fun (k : Nat) => [(3, .row 65 3 (Pn.pos (Nt.st l) k).length (ga encP (Pn.pos (Nt.st l) k)))]) [] [] (fun (k : Nat) => 31 - k) (fun (k : Nat) => k ≤ 31) 0 (Nat.zero_le _) V.S_ V.S_ (fun _ => ⟨rfl, rfl⟩) ?_; (conv => whnf); refine ⟨⟨rfl, rfl⟩, ?_⟩
  rintro k hk
  by_cases hlt : k < 31
  · have pl := Pn.pos_len (Nt.st l) k
    have ps := Pn.pos_snoc (Nt.st l) k
    repeat' ((conv => whnf); first | (refine NApp.one (en := encP) (l := Pn.pos (Nt.st l) k) (x := ⟨k, 0, (Nt.st l).getD k default⟩) (by simp; omega) (by simp; omega) ?_) | refine V.NCond.mk ?_ | refine V.NPick.l ?_ | refine V.NIf.not_ ?_ | refine V.NIf.dec_ ?_ | refine V.a4 ?_ | refine V.a5 ?_ | refine V.NIf.mk (fun _ => ?_) (fun _ => ?_) | refine V.a7 ?_ | refine V.a8 ?_ | refine V.a9 ?_ | refine V.NBoth.mk ?_ ?_ | refine V.b1 ?_ | refine V.b2 ?_ | refine V.NTF.dec ?_ | refine V.b3 ?_ | refine V.b4 ?_ | (refine NIdx.mk ⟨_, rfl, by omega, ?_⟩) | (refine V.NDraw.any (by kernel_rfl) ?_) | fail)
    all_goals (conv => whnf)
    all_goals first
      | exact V.NBack.at_ (k + 1) [] (by omega) (by omega) V.S_ rfl ⟨ObLe.as_ (ps.trans (by rw [Pn.po_no (by assumption), List.append_nil])), trivial⟩ V.S_ V.S_
      | exact V.NBack.at_ (k + 1) [(3, 5)] (by omega) (by omega) V.S_ rfl ⟨ObLe.as_ (ps.trans (by rw [Pn.po_yes (by assumption)])), trivial⟩ V.S_ V.S_
      | skip
  obtain rfl : k = 31 := by omega
  repeat' ((conv => whnf); first | refine V.NCond.mk ?_ | refine V.NPick.l ?_ | refine V.NIf.not_ ?_ | refine V.NIf.dec_ ?_ | refine V.a4 ?_ | refine V.a5 ?_ | refine V.NIf.mk (fun _ => ?_) (fun _ => ?_) | refine V.a7 ?_ | refine V.a8 ?_ | refine V.a9 ?_ | refine V.NBoth.mk ?_ ?_ | refine V.b1 ?_ | refine V.b2 ?_ | refine V.NTF.dec ?_ | refine V.b3 ?_ | refine V.b4 ?_ | (refine V.NDraw.any (by kernel_rfl) ?_) | fail)
  all_goals (conv => whnf)
  · have e : Pn.suE l = 5 := (if_neg (by omega)).trans (if_pos (by omega))
    rw [show Pn.suL l = [] from if_neg (by omega), e]
    (first | exact V.er 0 | exact V.er 1 | exact V.er 2 | exact V.er 3 | exact V.er 4 | exact V.er 5 | exact V.er 6 | exact V.er 7 | exact V.er 8 | exact V.er 9 | exact V.er 10 | exact V.er 11 | exact V.er 12 | exact V.er 13 | exact V.er 14 | exact V.er 15 | exact V.er 16 | exact V.er 17)
  · have e : Pn.suE l = 0 := (if_neg (by omega)).trans (if_neg (by omega))
    rw [show Pn.suL l = Pn.pos (Nt.st l) 31 from if_pos e, e]
    (first | exact V.erf 0 | exact V.erf 1 | exact V.erf 2 | exact V.erf 3 | exact V.erf 4 | exact V.erf 5 | exact V.erf 6 | exact V.erf 7 | exact V.erf 8 | exact V.erf 9 | exact V.erf 10 | exact V.erf 11 | exact V.erf 12 | exact V.erf 13 | exact V.erf 14 | exact V.erf 15 | exact V.erf 16 | exact V.erf 17)
theorem v_rpsum (l : List Du) (hn : l.length ≤ 9223372036854775807) : V.FnR Tryz.prog 48 [.arr 3 l.length (ga encD l)] [.one (.ref 0)] (.tup [.one (.ref 1), .one (.val (.int .i64 (Pn.suE l)))]) [.row 65 3 (Pn.suL l).length (ga encP (Pn.suL l))] := by
  refine V.FnR.mk_ V.Tok V.mixed Tryz.func48 rfl Tryz.ntmps48 (by kernel_rfl) rfl rfl rfl rfl ?_
  repeat' ((conv => whnf); first | refine V.NCond.mk ?_ | refine V.NPick.l ?_ | refine V.NIf.not_ ?_ | refine V.NIf.dec_ ?_ | refine V.a4 ?_ | refine V.a5 ?_ | refine V.NIf.mk (fun _ => ?_) (fun _ => ?_) | refine V.a7 ?_ | refine V.a8 ?_ | refine V.a9 ?_ | refine V.NBoth.mk ?_ ?_ | refine V.b1 ?_ | refine V.b2 ?_ | refine V.NTF.dec ?_ | refine V.b3 ?_ | refine V.b4 ?_ | ((first | refine V.FnR.k_ (v_rstand l hn) [0] rfl ?_ ?_ | refine V.FnR.a_ (v_rstand l hn) [0] rfl ?_ ?_); · exact V.D_) | (refine V.NDraw.any (by kernel_rfl) ?_) | fail)
  all_goals (conv => whnf)
  rotate_left
  · have e : Pn.suE l = Nt.stE l := if_pos (by assumption)
    rw [show Pn.suL l = [] from if_neg (by rw [e]; assumption), e]
    (first | exact V.er 0 | exact V.er 1 | exact V.er 2 | exact V.er 3 | exact V.er 4 | exact V.er 5 | exact V.er 6 | exact V.er 7 | exact V.er 8 | exact V.er 9 | exact V.er 10 | exact V.er 11 | exact V.er 12 | exact V.er 13 | exact V.er 14 | exact V.er 15 | exact V.er 16 | exact V.er 17)
  have h0 : Nt.stE l = 0 := by assumption
  have s31 : (Nt.st l).length = 31 := by rw [show Nt.st l = Nt.sums l 31 from if_pos h0]; simp [Nt.sums]
  refine V.NLoop.auto (fun (k : Nat) => [(7, .one (.val (.int .i64 k))), (6, .one (.ref 3))]) (fun (k : Nat) => [(3, .row 65 3 (Pn.pos (Nt.st l) k).length (ga encP (Pn.pos (Nt.st l) k)))]) [] [] (fun (k : Nat) => 31 - k) (fun (k : Nat) => k ≤ 31) 0 (Nat.zero_le _) V.S_ V.S_ (fun _ => ⟨rfl, rfl⟩) ?_; (conv => whnf); refine ⟨⟨rfl, rfl⟩, ?_⟩
  rintro k hk
  by_cases hlt : k < 31
  · have pl := Pn.pos_len (Nt.st l) k
    have ps := Pn.pos_snoc (Nt.st l) k
    repeat' ((conv => whnf); first | (refine NApp.one (en := encP) (l := Pn.pos (Nt.st l) k) (x := ⟨k, 0, (Nt.st l).getD k default⟩) (by simp; omega) (by simp; omega) ?_) | refine V.NCond.mk ?_ | refine V.NPick.l ?_ | refine V.NIf.not_ ?_ | refine V.NIf.dec_ ?_ | refine V.a4 ?_ | refine V.a5 ?_ | refine V.NIf.mk (fun _ => ?_) (fun _ => ?_) | refine V.a7 ?_ | refine V.a8 ?_ | refine V.a9 ?_ | refine V.NBoth.mk ?_ ?_ | refine V.b1 ?_ | refine V.b2 ?_ | refine V.NTF.dec ?_ | refine V.b3 ?_ | refine V.b4 ?_ | (refine NIdx.mk ⟨_, rfl, by omega, ?_⟩) | (refine V.NDraw.any (by kernel_rfl) ?_) | fail)
    all_goals (conv => whnf)
    all_goals first
      | exact V.NBack.at_ (k + 1) [] (by omega) (by omega) V.S_ rfl ⟨ObLe.as_ (ps.trans (by rw [Pn.po_no (by assumption), List.append_nil])), trivial⟩ V.S_ V.S_
      | exact V.NBack.at_ (k + 1) [(3, 5)] (by omega) (by omega) V.S_ rfl ⟨ObLe.as_ (ps.trans (by rw [Pn.po_yes (by assumption)])), trivial⟩ V.S_ V.S_
      | skip
  obtain rfl : k = 31 := by omega
  repeat' ((conv => whnf); first | refine V.NCond.mk ?_ | refine V.NPick.l ?_ | refine V.NIf.not_ ?_ | refine V.NIf.dec_ ?_ | refine V.a4 ?_ | refine V.a5 ?_ | refine V.NIf.mk (fun _ => ?_) (fun _ => ?_) | refine V.a7 ?_ | refine V.a8 ?_ | refine V.a9 ?_ | refine V.NBoth.mk ?_ ?_ | refine V.b1 ?_ | refine V.b2 ?_ | refine V.NTF.dec ?_ | refine V.b3 ?_ | refine V.b4 ?_ | (refine V.NDraw.any (by kernel_rfl) ?_) | fail)
  all_goals (conv => whnf)
  · have e : Pn.suE l = 5 := (if_neg (by omega)).trans (if_pos (by omega))
    rw [show Pn.suL l = [] from if_neg (by omega), e]
    (first | exact V.er 0 | exact V.er 1 | exact V.er 2 | exact V.er 3 | exact V.er 4 | exact V.er 5 | exact V.er 6 | exact V.er 7 | exact V.er 8 | exact V.er 9 | exact V.er 10 | exact V.er 11 | exact V.er 12 | exact V.er 13 | exact V.er 14 | exact V.er 15 | exact V.er 16 | exact V.er 17)
  · have e : Pn.suE l = 0 := (if_neg (by omega)).trans (if_neg (by omega))
    rw [show Pn.suL l = Pn.pos (Nt.st l) 31 from if_pos e, e]
    (first | exact V.erf 0 | exact V.erf 1 | exact V.erf 2 | exact V.erf 3 | exact V.erf 4 | exact V.erf 5 | exact V.erf 6 | exact V.erf 7 | exact V.erf 8 | exact V.erf 9 | exact V.erf 10 | exact V.erf 11 | exact V.erf 12 | exact V.erf 13 | exact V.erf 14 | exact V.erf 15 | exact V.erf 16 | exact V.erf 17)
end Go.Proofs.YtpanlcnoopmchaaGreat

namespace Go.Proofs.YtpanlcnoopmchaaGreat
namespace Nt
def up (f : Nat → Int) (n : Nat) : Int := M.sum ((List.range n).map f)
end Nt
end Go.Proofs.YtpanlcnoopmchaaGreat

namespace Go.Proofs.YtpanlcnoopmchaaGreat
namespace Pn
theorem su_ok {l : List Du} (h : suE l = 0) : Nt.stE l = 0 ∧ (pos (Nt.st l) 31).length ≠ 0 ∧ suL l = pos (Nt.st l) 31 := by
  have e : suL l = pos (Nt.st l) 31 := if_pos h
  unfold suE at h
  split at h
  · exact absurd h (by assumption)
  · split at h
    · cases h
    · exact ⟨by omega, by assumption, e⟩
end Pn
end Go.Proofs.YtpanlcnoopmchaaGreat

namespace Go.Proofs.YtpanlcnoopmchaaGreat
namespace Pn
theorem checks_take {l : List Fl} (k : Nat) (h : F.checks l = 0) : F.checks (l.take k) = 0 := by
  obtain ⟨a, b, c⟩ := K.checks_all h
  refine K.checks_of (by rw [List.length_take]; omega) (fun f hf => b f (List.mem_of_mem_take hf)) ?_
  rw [List.map_take]
  exact c.sublist (List.take_sublist _ _)
theorem checks_drop {l : List Fl} (k : Nat) (h : F.checks l = 0) : F.checks (l.drop k) = 0 := by
  obtain ⟨a, b, c⟩ := K.checks_all h
  refine K.checks_of (by rw [List.length_drop]; omega) (fun f hf => b f (List.mem_of_mem_drop hf)) ?_
  rw [List.map_drop]
  exact c.sublist (List.drop_sublist _ _)
theorem y_of {c : Cl} {t : List Tm} {l : List Fl} {ps : List Int} {n : Int} (R : Right c t l ps n) (h : ∀ f ∈ l, eF c t n f = 0) : yD c t l ps n = 0 ∧ yL c t l ps n = dus c t ps n l := y_yes (yE_of R) (fb_yes h)
theorem parts {c : Cl} {t : List Tm} {l : List Fl} {ps : List Int} {n : Int} (h : yD c t l ps n = 0) (k : Nat) :
    yD c t (l.take k) ps n = 0 ∧ yD c t (l.drop k) ps n = 0 ∧ yL c t l ps n = yL c t (l.take k) ps n ++ yL c t (l.drop k) ps n := by
  obtain ⟨R, a, e⟩ := y_ok h
  have h1 := y_of (l := l.take k) ⟨R.kc, R.kt, checks_take k R.kl, R.kp, R.ko⟩ fun f hf => a f (List.mem_of_mem_take hf)
  have h2 := y_of (l := l.drop k) ⟨R.kc, R.kt, checks_drop k R.kl, R.kp, R.ko⟩ fun f hf => a f (List.mem_of_mem_drop hf)
  refine ⟨h1.1, h2.1, ?_⟩
  rw [e, h1.2, h2.2]
  unfold dus
  rw [← List.flatMap_append, List.take_append_drop]
theorem yL_len (c : Cl) (t : List Tm) (l : List Fl) (ps : List Int) (n : Int) : (yL c t l ps n).length ≤ 60 := by
  by_cases h : yD c t l ps n = 0
  · obtain ⟨R, _, e⟩ := y_ok h
    rw [e]
    have := dus_len c t ps n l
    have := F.checks_len (l := l) (by have := R.kl; omega)
    omega
  · rw [show yL c t l ps n = [] from if_neg h]; decide
noncomputable def ln1 (c : Cl) (t : List Tm) (n : Int) (f : Fl) : Int := open Classical in if Late (Ag.sV c (cl t f) f n) then 1 else 0
noncomputable def ln (c : Cl) (t : List Tm) (n : Int) (l : List Fl) : Int := M.sum (l.map (ln1 c t n))
end Pn
end Go.Proofs.YtpanlcnoopmchaaGreat

namespace Go.Proofs.YtpanlcnoopmchaaGreat.V
open Go Go.RowKit
def allz : Obs → Bool
  | [] => true
  | (i, _) :: r => Nat.beq i 0 && allz r
theorem fnd_allz : ∀ {L O : Obs} {i : Nat}, allz L = true → i ≠ 0 → fnd (L ++ O) i = fnd O i
  | [], O, i, _, _ => rfl
  | (j, o) :: r, O, i, h, hi => by
    unfold allz at h
    simp only [Bool.and_eq_true] at h
    have hj := Nat.eq_of_beq_eq_true h.1
    subst hj
    have : Nat.beq 0 i = false := by
      cases hb : Nat.beq 0 i
      · rfl
      · exact absurd (Nat.eq_of_beq_eq_true hb).symm hi
    have ih := fnd_allz (O := O) h.2 hi
    refine Eq.trans ?_ ih
    show fnd ((0, o) :: (r ++ O)) i = _
    conv => lhs; unfold fnd
    rw [this]
theorem fnd_app0 : ∀ {L O : Obs} {i : Nat} {o : Ob}, fnd L i = some o → fnd (L ++ O) i = some o
  | [], O, i, o, h => by cases h
  | (j, u) :: r, O, i, o, h => by
    show fnd ((j, u) :: (r ++ O)) i = some o
    unfold fnd at h ⊢
    cases hb : Nat.beq j i <;> rw [hb] at h
    · exact fnd_app0 h
    · exact h
def onceB : Obs → Bool
  | [] => true
  | (i, _) :: r => (match fnd r i with | none => true | some _ => false) && !Nat.beq i 0 && onceB r
structure Tail (nx : Nat) (O : Obs) : Prop where
  b : obsB nx O = true
  s : ∀ L : Obs, allz L = true → ObsLe (sgm []) (L ++ O) O
theorem once_le {L : Obs} (hL : allz L = true) {A : Obs} : ∀ {O : Obs}, onceB O = true → (∀ i o, fnd O i = some o → fnd A i = some o) → ObsLe (sgm []) (L ++ A) O
  | [], _, _ => trivial
  | (i, o) :: r, h, e => by
    unfold onceB at h
    simp only [Bool.and_eq_true, Bool.not_eq_true'] at h
    obtain ⟨⟨h1, h2⟩, h3⟩ := h
    have hi : i ≠ 0 := fun q => by subst q; rw [Nat.beq_refl] at h2; cases h2
    refine ⟨?_, once_le hL h3 fun j u hj => ?_⟩
    · have t : fnd ((i, o) :: r) i = some o := fnd_top
      have := e i o t
      rw [← fnd_allz (L := L) hL hi] at this
      exact fndK_of this (by rw [renO_nil]; exact ObLe.refl o)
    · refine e j u ?_
      have hne : j ≠ i := fun q => by subst q; rw [hj] at h1; cases h1
      exact fndK_skip hne hj
theorem Tail.of {nx : Nat} {O : Obs} (h1 : obsB nx O = true) (h2 : onceB O = true) : Tail nx O := ⟨h1, fun L hL => once_le hL h2 fun _ _ q => q⟩
theorem Tail.row {nx : Nat} {O L : Obs} (h : Tail nx O) {t s n : Nat} {g g' : Nat → List Value} (hL : allz L = true) (hr : fnd L 0 = some (.row t s n g)) (e : ∀ k, k < n → g k = g' k) : ObsLe (sgm []) (L ++ O) ((0, .row t s n g') :: O) :=
  ⟨fndK_of (fnd_app0 hr) ⟨rfl, rfl, rfl, e⟩, h.s L hL⟩
theorem Tail.bz {nx : Nat} {O : Obs} (h : Tail (nx + 1) O) (t s n : Nat) (g : Nat → List Value) : obsB (nx + 1) ((0, .row t s n g) :: O) = true := by
  have := h.b
  unfold obsB at this ⊢
  rw [List.all_cons, this]
  rfl
structure FEnd (t s n nx : Nat) (O : Obs) (Q : (Nat → List Value) → Prop) (v : SV) (obs : Obs) (nx' : Nat) : Prop where
  h : v = .tup [] ∧ nx' = nx ∧ ∃ L g, obs = L ++ O ∧ allz L = true ∧ fnd L 0 = some (.row t s n g) ∧ Q g
structure FOne (t s n nx : Nat) (O : Obs) (Q : (Nat → List Value) → Prop) (v : SV) (obs : Obs) (nx' : Nat) : Prop where
  h : v = .tup [] ∧ nx' = nx ∧ ∃ g, obs = (0, .row t s n g) :: O ∧ Q g
def Fam (P : Program) (f : FuncId) (args : List SV) (t s n : Nat) (get : Nat → List Value) (nx : Nat) (O : Obs) (Q : (Nat → List Value) → Prop) : Prop :=
  NCall P f args ((0, .row t s n get) :: O) (nx + 1) (FOne t s n (nx + 1) O Q)
theorem NCall.mono {P : Program} {f : FuncId} {args : List SV} {obs : Obs} {nx : Nat} {K K' : SV → Obs → Nat → Prop} (h : NCall P f args obs nx K) (m : ∀ v o n, K v o n → K' v o n) : NCall P f args obs nx K' :=
  ⟨h.b, fun B ρ w xs hC ha => (h.h B ρ w xs hC ha).mono fun e w' ⟨v, o, n, ρ', x, hK, r⟩ => ⟨v, o, n, ρ', x, m _ _ _ hK, r⟩⟩
theorem cut_id {B nx : Nat} {ρ : Rho} {obs : Obs} {w : World} (hC : Cls B ρ obs nx w) : cut nx (via (sgm []) ρ) = ρ := by
  funext i
  unfold cut via
  by_cases h : i < nx
  · rw [if_pos h]; rfl
  · rw [if_neg h, hC.new i (by omega)]
theorem Fam.mk {P : Program} {f : FuncId} {args : List SV} {t s n nx : Nat} {get : Nat → List Value} {O : Obs} {Q : (Nat → List Value) → Prop} (hT : Tail (nx + 1) O)
    (h : NCall P f args ((0, .row t s n get) :: O) (nx + 1) (FEnd t s n (nx + 1) O Q)) : Fam P f args t s n get nx O Q :=
  ⟨h.b, fun B ρ w xs hC ha => (h.h B ρ w xs hC ha).mono fun e w' ⟨v, o, m, ρ', x, hK, hx, he, hv, hC', hb, ho⟩ => by
    obtain ⟨rfl, rfl, L, g, rfl, hL, hr, hQ⟩ := hK.h
    have c := hC'.head (hT.row hL hr fun _ _ => rfl) (hT.bz t s n g) (injB_id _)
    rw [cut_id hC'] at c
    exact ⟨_, _, _, ρ', x, ⟨rfl, rfl, g, rfl, hQ⟩, hx, he, hv, c, hb, ho⟩⟩
theorem Fam.use {P : Program} {f : FuncId} {args : List SV} {t s n nx : Nat} {get : Nat → List Value} {O : Obs} {Q : (Nat → List Value) → Prop} (h : Fam P f args t s n get nx O Q) (hT : Tail (nx + 1) O) {obs : Obs} (L : Obs) {K : SV → Obs → Nat → Prop} {g : Nat → List Value}
    (ho : obs = L ++ O) (hL : allz L = true) (hr : fnd L 0 = some (.row t s n g)) (e : ∀ k, k < n → g k = get k) (hK : ∀ g', Q g' → K (.tup []) ((0, .row t s n g') :: O) (nx + 1)) : NCall P f args obs (nx + 1) K := by
  subst ho
  refine ⟨h.b, fun B ρ w xs hC ha => ?_⟩
  have c := hC.head (hT.row hL hr e) (hT.bz t s n get) (injB_id _)
  rw [cut_id hC] at c
  refine (h.h B ρ w xs c ha).mono ?_
  rintro e' w' ⟨v, o, m, ρ', x, hK', r⟩
  obtain ⟨rfl, rfl, g', rfl, hQ⟩ := hK'.h
  exact ⟨_, _, _, ρ', x, hK g' hQ, r⟩
structure FBack {ι : Type} (nx t s n : Nat) (O : Obs) (chg : ι → Env) (base : Env) (get : ι → Nat → List Value) (μ : ι → Nat) (J : ι → Prop) (m : Nat) (env1 : Env) (obs1 : Obs) : Prop where
  h : ∃ i' l, J i' ∧ μ i' < m ∧ pinB (nx + 1) l = true ∧ injB (sgm l) (nx + 1) = true ∧ EnvLe (sgm l) env1 (chg i' ++ base) ∧ ObsLe (sgm l) obs1 ((0, .row t s n (get i')) :: O)
theorem FBack.at_ {ι : Type} {nx t s n : Nat} {O : Obs} {chg : ι → Env} {base : Env} {get : ι → Nat → List Value} {μ : ι → Nat} {J : ι → Prop} {m : Nat} {env1 : Env} {obs1 : Obs} (hT : Tail (nx + 1) O) (i' : ι) (L : Obs) {g : Nat → List Value} (h1 : J i') (h2 : μ i' < m) (h3 : EnvLe (sgm []) env1 (chg i' ++ base))
    (h4 : obs1 = L ++ O) (h5 : allz L = true) (h6 : fnd L 0 = some (.row t s n g)) (h7 : ∀ k, k < n → g k = get i' k) : FBack nx t s n O chg base get μ J m env1 obs1 := by
  subst h4
  exact ⟨⟨i', [], h1, h2, rfl, injB_id _, h3, hT.row h5 h6 h7⟩⟩
theorem NLoop.fam {ws : List Nat} {nx : Nat} {body : Env → Obs → Nat → Kon → Prop} {env : Env} {obs : Obs} {K : Kon} {O : Obs} (hT : Tail (nx + 1) O) {ι : Type} (chg : ι → Env) (base : Env) (t s n : Nat) (get : ι → Nat → List Value) (μ : ι → Nat) (J : ι → Prop) (i0 : ι) (h0 : J i0)
    (L : Obs) {g : Nat → List Value} (ho : obs = L ++ O) (hL : allz L = true) (hr : fnd L 0 = some (.row t s n g)) (e : ∀ k, k < n → g k = get i0 k) (he : EnvLe (sgm []) env (chg i0 ++ base)) (hb : ∀ i, envB (nx + 1) (chg i) = true) (hb2 : envB (nx + 1) base = true)
    (h : ∀ i, J i → body (chg i ++ base) ((0, .row t s n (get i)) :: O) (nx + 1) fun e env1 obs1 nx1 => match e with
      | .nrm => FBack nx t s n O chg base get μ J (μ i) env1 obs1
      | .exit n => K (.exit n) env1 obs1 nx1
      | .ret => K .ret env1 obs1 nx1) : NLoop ws (nx + 1) body env obs (nx + 1) K := by
  subst ho
  refine ⟨⟨ι, fun i => (chg i ++ base, (0, .row t s n (get i)) :: O), μ, J, i0, nx + 1, Nat.le_refl _, h0, injB_id _, he, hT.row hL hr e, fun i => ⟨?_, hT.bz t s n _⟩, fun i hi => ?_⟩⟩
  · simp only [envB, List.all_append, Bool.and_eq_true]; exact ⟨hb i, hb2⟩
  · have := h i hi
    refine cast ?_ this
    congr 1
    funext e env1 obs1 nx1
    cases e
    · apply propext
      constructor
      · rintro ⟨q⟩; exact q
      · intro q; exact ⟨q⟩
    · rfl
    · rfl
theorem Svs.ren_ {σ : Nat → Nat} {ρ : Rho} {nx : Nat} : ∀ {l : List SV} {xs : List Value}, argB nx l = true → Svs ρ (l.map (renS σ)) xs → Svs (V.cut nx (via σ ρ)) l xs
  | [], _, _, h => h
  | v :: l, _, hb, ⟨x, r, e, hv, hr⟩ => by
    unfold argB at hb
    simp only [List.all_cons, Bool.and_eq_true] at hb
    refine ⟨x, r, e, ?_, Svs.ren_ (l := l) (by unfold argB; exact hb.2) hr⟩
    cases v with
    | one a => exact At.is_cut (a := a) hb.1 (SV.is_via (v := .one a) hb.1 hv)
    | agg c =>
      obtain ⟨cs, hc, e⟩ := hv
      exact ⟨cs, hc.via.cut hb.1, e⟩
    | tup l => exact hv.elim
theorem Fam.call {P : Program} {f : FuncId} {args : List SV} {t s n nx : Nat} {get : Nat → List Value} {O : Obs} {Q : (Nat → List Value) → Prop} (h : Fam P f args t s n get nx O Q) (hT : Tail (nx + 1) O) {obs : Obs} {args' : List SV} {K : SV → Obs → Nat → Prop} (l : List (Nat × Nat)) (obs2 : (Nat → List Value) → Obs)
    (ha : args' = args.map (renS (sgm l))) (hab : argB (nx + 1) args = true) (hi : injB (sgm l) (nx + 1) = true) (hinv : ∀ i, i < nx + 1 → sgm l i < nx + 1 ∧ sgm l (sgm l i) = i) (ho : ObsLe (sgm l) obs ((0, .row t s n get) :: O)) (hb2 : ∀ g', obsB (nx + 1) (obs2 g') = true)
    (ho2 : ∀ g', ObsLe (sgm l) ((0, .row t s n g') :: O) (obs2 g')) (hK : ∀ g', Q g' → K (.tup []) (obs2 g') (nx + 1)) : NCall P f args' obs (nx + 1) K := by
  subst ha
  refine ⟨h.b, fun B ρ w xs hC hxs => ?_⟩
  have c := hC.head ho (hT.bz t s n get) hi
  refine (h.h B _ w xs c (Svs.ren_ hab hxs)).mono ?_
  rintro e' w' ⟨v, o, m, ρ', x, hK', hx, he, hv, hC', hb, hoth⟩
  obtain ⟨rfl, rfl, g', rfl, hQ⟩ := hK'.h
  have c2 := hC'.head (ho2 g') (hb2 g') hi
  refine ⟨_, _, _, _, x, hK g' hQ, fun i y hy => ?_, he, ?_, c2, hb, hoth⟩
  · have hi' : i < nx + 1 := by
      rcases Nat.lt_or_ge i (nx + 1) with q | q
      · exact q
      · rw [hC.new i q] at hy; cases hy
    obtain ⟨q1, q2⟩ := hinv i hi'
    rw [cut_lt hi']
    refine hx _ _ ?_
    rw [cut_lt q1]
    unfold via
    rw [q2]
    exact hy
  · exact hv
end Go.Proofs.YtpanlcnoopmchaaGreat.V

namespace Go.Proofs.YtpanlcnoopmchaaGreat
open Go Go.Sort
set_option linter.unusedSectionVars false
namespace St
variable {α : Type} [Inhabited α]
def Sw (a b n : Nat) (d d' : Array α) : Prop :=
  d'.size = d.size ∧ (∀ k, (k < a ∨ a + n ≤ k) → (k < b ∨ b + n ≤ k) → d'[k]! = d[k]!) ∧ (∀ i, i < n → d'[a + i]! = d[b + i]! ∧ d'[b + i]! = d[a + i]!)
theorem Sw.zero (a b : Nat) (d : Array α) : Sw a b 0 d d := ⟨rfl, fun _ _ _ => rfl, fun i h => absurd h (by omega)⟩
theorem Sw.succ {a b n : Nat} {d d' : Array α} (h : Sw a b n d d') (h1 : a + n + 1 ≤ b) (h2 : b + n < d.size) : Sw a b (n + 1) d (swp d' (a + n) (b + n)) := by
  obtain ⟨s, o, e⟩ := h
  refine ⟨by rw [size_swp, s], fun k k1 k2 => ?_, fun i hi => ?_⟩
  · rw [swp_other _ _ _ _ (by omega) (by omega)]
    exact o k (by omega) (by omega)
  · by_cases z : i = n
    · subst z
      rw [swp_left _ _ _ (by omega) (by omega), swp_right _ _ _ (by omega)]
      exact ⟨o _ (by omega) (by omega), o _ (by omega) (by omega)⟩
    · rw [swp_other _ _ _ _ (by omega) (by omega), swp_other _ _ _ _ (by omega) (by omega)]
      exact e i (by omega)
def Rot (a m b : Nat) (d d' : Array α) : Prop :=
  d'.size = d.size ∧ (∀ k, k < a ∨ b ≤ k → d'[k]! = d[k]!) ∧ (∀ k, a ≤ k → k < a + (b - m) → d'[k]! = d[k + (m - a)]!) ∧ (∀ k, a + (b - m) ≤ k → k < b → d'[k]! = d[k - (b - m)]!)
theorem at_eq {d : Array α} {i j : Nat} (h : i = j) : d[i]! = d[j]! := by rw [h]
theorem Sw.left {a b n k : Nat} {d d' : Array α} (h : Sw a b n d d') (h1 : a ≤ k) (h2 : k < a + n) : d'[k]! = d[b + (k - a)]! := by
  have := (h.2.2 (k - a) (by omega)).1
  rwa [show a + (k - a) = k by omega] at this
theorem Sw.right {a b n k : Nat} {d d' : Array α} (h : Sw a b n d d') (h1 : b ≤ k) (h2 : k < b + n) : d'[k]! = d[a + (k - b)]! := by
  have := (h.2.2 (k - b) (by omega)).2
  rwa [show b + (k - b) = k by omega] at this
theorem rot_end {m i : Nat} {d d' : Array α} (hi : i ≤ m) (h : Sw (m - i) m i d d') : Rot (m - i) m (m + i) d d' := by
  refine ⟨h.1, fun k hk => h.2.1 k (by omega) (by omega), fun k h1 h2 => ?_, fun k h1 h2 => ?_⟩
  · rw [h.left h1 (by omega)]
    all_goals exact at_eq (by omega)
  · rw [h.right (by omega) (by omega)]
    all_goals exact at_eq (by omega)
theorem rot_left {m i j : Nat} {d d1 d' : Array α} (hi : i ≤ m) (hj : 0 < j) (hij : j < i) (h : Sw (m - i) m j d d1) (r : Rot (m - (i - j)) m (m + j) d1 d') : Rot (m - i) m (m + j) d d' := by
  obtain ⟨r1, r2, r3, r4⟩ := r
  refine ⟨by rw [r1, h.1], fun k hk => ?_, fun k h1 h2 => ?_, fun k h1 h2 => ?_⟩
  · rw [r2 k (by omega), h.2.1 k (by omega) (by omega)]
  · rw [r2 k (by omega), h.left h1 (by omega)]
    all_goals exact at_eq (by omega)
  · by_cases z : k < m - (i - j) + (m + j - m)
    · rw [r3 k (by omega) z, h.right (by omega) (by omega)]
      all_goals exact at_eq (by omega)
    · rw [r4 k (by omega) (by omega), h.2.1 _ (by omega) (by omega)]
      all_goals exact at_eq (by omega)
theorem rot_right {m i j : Nat} {d d1 d' : Array α} (hi : i ≤ m) (hi0 : 0 < i) (hij : i < j) (h : Sw (m - i) (m + j - i) i d d1) (r : Rot (m - i) m (m + (j - i)) d1 d') : Rot (m - i) m (m + j) d d' := by
  obtain ⟨r1, r2, r3, r4⟩ := r
  refine ⟨by rw [r1, h.1], fun k hk => ?_, fun k h1 h2 => ?_, fun k h1 h2 => ?_⟩
  · rw [r2 k (by omega), h.2.1 k (by omega) (by omega)]
  · by_cases z : k < m - i + (m + (j - i) - m)
    · rw [r3 k h1 z]
      by_cases y : k + (m - (m - i)) < m + j - i
      · rw [h.2.1 _ (by omega) (by omega)]
      · rw [h.right (by omega) (by omega)]; omega
    · rw [r4 k (by omega) (by omega), h.left (by omega) (by omega)]
      all_goals exact at_eq (by omega)
  · rw [r2 k (by omega), h.right (by omega) (by omega)]
    all_goals exact at_eq (by omega)
theorem map_shift (f : Nat → α) (s a n : Nat) : (List.range' a n).map (fun k => f (k + s)) = (List.range' (a + s) n).map f := by
  apply List.ext_getElem
  · simp
  · intro i h1 h2
    simp only [List.getElem_map, List.getElem_range']
    congr 1
    omega
theorem Rot.perm {a m b : Nat} {d d' : Array α} (h : Rot a m b d d') (h1 : a ≤ m) (h2 : m ≤ b) (hb : b ≤ d.size) : PermIn a b d d' := by
  obtain ⟨r1, r2, r3, r4⟩ := h
  refine ⟨r1, r2, ?_⟩
  rw [extract_toList d' a b (by omega), extract_toList d a b hb]
  have e1 : List.range' a (b - a) = List.range' a (b - m) ++ List.range' (a + (b - m)) (m - a) := by
    rw [List.range'_append_1]; congr 1; omega
  have e2 : List.range' a (b - a) = List.range' a (m - a) ++ List.range' m (b - m) := by
    have := List.range'_append_1 (s := a) (m := m - a) (n := b - m)
    rw [show a + (m - a) = m by omega, show m - a + (b - m) = b - a by omega] at this
    exact this.symm
  conv => lhs; rw [e1, List.map_append]
  conv => rhs; rw [e2, List.map_append]
  have f1 : (List.range' a (b - m)).map (fun i => d'[i]!) = (List.range' m (b - m)).map (fun i => d[i]!) := by
    have q := map_shift (fun i => d[i]!) (m - a) a (b - m)
    rw [show a + (m - a) = m by omega] at q
    rw [← q]
    exact List.map_congr_left fun k hk => by
      rw [List.mem_range'_1] at hk
      exact r3 k hk.1 hk.2
  have f2 : (List.range' (a + (b - m)) (m - a)).map (fun i => d'[i]!) = (List.range' a (m - a)).map (fun i => d[i]!) := by
    have q := map_shift (fun i => d'[i]!) (b - m) a (m - a)
    rw [← q]
    exact List.map_congr_left fun k hk => by
      rw [List.mem_range'_1] at hk
      rw [r4 (k + (b - m)) (by omega) (by omega)]
      exact at_eq (by omega)
  rw [f1, f2]
  exact List.perm_append_comm
theorem Rot.refl_l {m b : Nat} {d : Array α} : Rot m m b d d := ⟨rfl, fun _ _ => rfl, fun k h1 h2 => at_eq (by omega), fun k h1 h2 => absurd h1 (by omega)⟩
theorem Rot.refl_r {a m : Nat} {d : Array α} : Rot a m m d d := ⟨rfl, fun _ _ => rfl, fun k h1 h2 => absurd h1 (by omega), fun k h1 h2 => at_eq (by omega)⟩
theorem Rot.up {a k : Nat} {d d' : Array α} (h : Rot a (a + 1) (k + 1) d d') (h1 : a ≤ k) (h2 : k + 1 < d.size) : Rot a (a + 1) (k + 2) d (swp d' k (k + 1)) := by
  obtain ⟨r1, r2, r3, r4⟩ := h
  refine ⟨by rw [size_swp, r1], fun q hq => ?_, fun q q1 q2 => ?_, fun q q1 q2 => ?_⟩
  · rw [swp_other _ _ _ _ (by omega) (by omega)]
    exact r2 q (by omega)
  · by_cases z : q = k
    · subst z
      rw [swp_left _ _ _ (by omega) (by omega), r2 _ (by omega)]
      exact at_eq (by omega)
    · rw [swp_other _ _ _ _ (by omega) (by omega)]
      exact r3 q q1 (by omega)
  · obtain rfl : q = k + 1 := by omega
    rw [swp_right _ _ _ (by omega)]
    by_cases z : a < k
    · rw [r4 k (by omega) (by omega)]
      exact at_eq (by omega)
    · rw [r4 k (by omega) (by omega)]
      exact at_eq (by omega)
theorem Rot.down {i k m : Nat} {d d' : Array α} (h : Rot (k + 1) m (m + 1) d d') (h1 : k < m) (h2 : m < d.size) : Rot k m (m + 1) d (swp d' (k + 1) k) := by
  obtain ⟨r1, r2, r3, r4⟩ := h
  refine ⟨by rw [size_swp, r1], fun q hq => ?_, fun q q1 q2 => ?_, fun q q1 q2 => ?_⟩
  · rw [swp_other _ _ _ _ (by omega) (by omega)]
    exact r2 q (by omega)
  · obtain rfl : q = k := by omega
    rw [swp_right _ _ _ (by omega)]
    by_cases z : q + 1 < m
    · rw [r3 (q + 1) (by omega) (by omega)]
      exact at_eq (by omega)
    · rw [r3 (q + 1) (by omega) (by omega)]
      exact at_eq (by omega)
  · by_cases z : q = k + 1
    · subst z
      rw [swp_left _ _ _ (by omega) (by omega), r2 _ (by omega)]
      exact at_eq (by omega)
    · rw [swp_other _ _ _ _ (by omega) (by omega), r4 q (by omega) (by omega)]
variable {lt : α → α → Bool}
theorem Rot.one {a m b i : Nat} {d d' : Array α} (h : Rot a m b d d') (h1 : a ≤ i) (h2 : i < a + (b - m)) : d'[i]! = d[i + (m - a)]! := h.2.2.1 i h1 h2
theorem Rot.two {a m b i : Nat} {d d' : Array α} (h : Rot a m b d d') (h1 : a + (b - m) ≤ i) (h2 : i < b) : d'[i]! = d[i - (b - m)]! := h.2.2.2 i h1 h2
theorem Rot.off {a m b i : Nat} {d d' : Array α} (h : Rot a m b d d') (h1 : i < a ∨ b ≤ i) : d'[i]! = d[i]! := h.2.1 i h1
theorem sle (S : SWO lt) {d : Array α} {lo hi x y : Nat} (h : SortedIn lt lo hi d) (q1 : lo ≤ x) (q2 : x ≤ y) (q3 : y < hi) : lt d[y]! d[x]! = false := by
  rcases Nat.lt_or_ge x y with z | z
  · exact h _ _ q1 z q3
  · obtain rfl : x = y := by omega
    exact S.irrefl _
theorem cross (S : SWO lt) {a s m e b : Nat} {d d1 : Array α} (r : Rot s m e d d1) (asl : a ≤ s) (sm : s ≤ m) (me : m ≤ e) (eb : e ≤ b) (H1 : SortedIn lt a m d) (H2 : SortedIn lt m b d)
    (C1 : a < s → e < b → lt d[e]! d[s - 1]! = false) (C2 : m < e → s < m → lt d[e - 1]! d[s]! = true) :
    ∀ i j, a ≤ i → i < s + (e - m) → s + (e - m) ≤ j → j < b → lt d1[j]! d1[i]! = false := by
  intro i j i1 i2 j1 j2
  have le : ∀ {lo hi x y : Nat}, SortedIn lt lo hi d → lo ≤ x → x ≤ y → y < hi → lt d[y]! d[x]! = false := fun h q1 q2 q3 => sle S h q1 q2 q3
  by_cases i3 : i < s
  · rw [r.off (i := i) (by omega)]
    by_cases j3 : j < e
    · rw [r.two (i := j) j1 j3]
      exact H1 _ _ i1 (by omega) (by omega)
    · rw [r.off (i := j) (by omega)]
      refine S.ntrans _ _ _ (le H2 (x := e) (by omega) (by omega) j2) (S.ntrans _ _ _ (C1 (by omega) (by omega)) (le H1 i1 (by omega) (by omega)))
  · rw [r.one (i := i) (by omega) i2]
    by_cases j3 : j < e
    · rw [r.two (i := j) j1 j3]
      have c := SWO.asymmA S (C2 (by omega) (by omega))
      exact S.ntrans _ _ _ (le H1 (x := s) asl (by omega) (by omega)) (S.ntrans _ _ _ c (le H2 (y := e - 1) (by omega) (by omega) (by omega)))
    · rw [r.off (i := j) (by omega)]
      exact H2 _ _ (by omega) (by omega) j2
theorem halves {a c b : Nat} {d1 d2 d3 : Array α} (ac : a ≤ c) (cb : c ≤ b) (hb : b ≤ d1.size) (X : ∀ i j, a ≤ i → i < c → c ≤ j → j < b → lt d1[j]! d1[i]! = false)
    (P2 : PermIn a c d1 d2) (S2 : SortedIn lt a c d2) (P3 : PermIn c b d2 d3) (S3 : SortedIn lt c b d3) : PermIn a b d1 d3 ∧ SortedIn lt a b d3 := by
  have z2 : d2.size = d1.size := P2.1
  refine ⟨permIn_trans _ _ _ _ _ (permIn_mono _ _ _ _ a b (Nat.le_refl _) cb (by omega) P2) (permIn_mono _ _ _ _ a b ac (Nat.le_refl _) (by omega) P3), fun i j i1 ij j2 => ?_⟩
  by_cases jc : j < c
  · rw [P3.2.1 j (by omega), P3.2.1 i (by omega)]
    exact S2 i j i1 ij jc
  by_cases ic : c ≤ i
  · exact S3 i j ic ij j2
  · -- i in the first half, j in the second
    have all2 : ∀ j, c ≤ j → j < b → lt d3[j]! d3[i]! = false := by
      rw [P3.2.1 i (by omega)]
      refine permIn_all d2 d3 c b (fun x => lt x d2[i]! = false) (by omega) P3 fun j q1 q2 => ?_
      rw [P2.2.1 j (by omega)]
      refine permIn_all d1 d2 a c (fun x => lt d1[j]! x = false) (by omega) P2 (fun i p1 p2 => X i j p1 p2 q1 q2) i i1 (by omega)
    exact all2 j (by omega) j2
theorem caseA (S : SWO lt) {a i b : Nat} {d d' : Array α} (r : Rot a (a + 1) i d d') (i1 : a + 1 ≤ i) (i2 : i ≤ b) (hb : b ≤ d.size) (H2 : SortedIn lt (a + 1) b d) (C1 : i = a + 1 ∨ lt d[i - 1]! d[a]! = true) (C2 : i = b ∨ lt d[i]! d[a]! = false) : PermIn a b d d' ∧ SortedIn lt a b d' := by
  have X := cross S (a := a) (b := b) r (Nat.le_refl _) (by omega) i1 i2 (fun p q h1 h2 h3 => absurd h3 (by omega)) H2 (fun h _ => absurd h (by omega)) (fun h1 _ => C1.resolve_left (by omega))
  have hv := halves (lt := lt) (a := a) (c := a + (i - (a + 1))) (b := b) (by omega) (by omega) (by rw [r.1]; exact hb) X (permIn_refl d' _ _) (fun p q h1 h2 h3 => ?_) (permIn_refl d' _ _) (fun p q h1 h2 h3 => ?_)
  · exact ⟨permIn_mono _ _ _ _ a b (Nat.le_refl _) i2 hb (r.perm (by omega) i1 (by omega)), hv.2⟩
  · rw [r.one (i := p) h1 (by omega), r.one (i := q) (by omega) (by omega)]
    exact H2 _ _ (by omega) (by omega) (by omega)
  · rw [r.off (i := q) (by omega)]
    by_cases z : p < i
    · rw [r.two (i := p) h1 z, at_eq (d := d) (show p - (i - (a + 1)) = a by omega)]
      exact S.ntrans _ _ _ (sle S H2 (x := i) (by omega) (by omega) h3) (C2.resolve_left (by omega))
    · rw [r.off (i := p) (by omega)]
      exact H2 _ _ (by omega) h2 h3
theorem caseB (S : SWO lt) {a i m : Nat} {d d' : Array α} (r : Rot i m (m + 1) d d') (i1 : a ≤ i) (i2 : i ≤ m) (hb : m + 1 ≤ d.size) (H1 : SortedIn lt a m d) (C1 : i = a ∨ lt d[m]! d[i - 1]! = false) (C2 : i = m ∨ lt d[m]! d[i]! = true) : PermIn a (m + 1) d d' ∧ SortedIn lt a (m + 1) d' := by
  have X := cross S (a := a) (b := m + 1) r i1 i2 (by omega) (Nat.le_refl _) H1 (fun p q h1 h2 h3 => absurd h3 (by omega)) (fun _ h => absurd h (by omega)) (fun _ h2 => by rw [Nat.add_sub_cancel]; exact C2.resolve_left (by omega))
  have hv := halves (lt := lt) (a := a) (c := i + (m + 1 - m)) (b := m + 1) (by omega) (by omega) (by rw [r.1]; exact hb) X (permIn_refl d' _ _) (fun p q h1 h2 h3 => ?_) (permIn_refl d' _ _) (fun p q h1 h2 h3 => ?_)
  · exact ⟨permIn_mono _ _ _ _ a (m + 1) i1 (Nat.le_refl _) hb (r.perm i2 (by omega) hb), hv.2⟩
  · by_cases z : q < i
    · rw [r.off (i := p) (by omega), r.off (i := q) (by omega)]
      exact H1 _ _ h1 h2 (by omega)
    · rw [r.off (i := p) (by omega), r.one (i := q) (by omega) (by omega), at_eq (d := d) (show q + (m - i) = m by omega)]
      exact S.ntrans _ _ _ (C1.resolve_left (by omega)) (sle S H1 h1 (by omega) (by omega))
  · rw [r.two (i := p) (by omega) (by omega), r.two (i := q) (by omega) h3]
    exact H1 _ _ (by omega) (by omega) (by omega)
theorem runs {a s m e b : Nat} {d d1 : Array α} (r : Rot s m e d d1) (asl : a ≤ s) (sm : s ≤ m) (me : m ≤ e) (eb : e ≤ b) (H1 : SortedIn lt a m d) (H2 : SortedIn lt m b d) :
    SortedIn lt a s d1 ∧ SortedIn lt s (s + (e - m)) d1 ∧ SortedIn lt (s + (e - m)) e d1 ∧ SortedIn lt e b d1 := by
  refine ⟨fun p q h1 h2 h3 => ?_, fun p q h1 h2 h3 => ?_, fun p q h1 h2 h3 => ?_, fun p q h1 h2 h3 => ?_⟩
  · rw [r.off (i := p) (by omega), r.off (i := q) (by omega)]
    exact H1 _ _ h1 h2 (by omega)
  · rw [r.one (i := p) h1 (by omega), r.one (i := q) (by omega) h3]
    exact H2 _ _ (by omega) (by omega) (by omega)
  · rw [r.two (i := p) h1 (by omega), r.two (i := q) (by omega) h3]
    exact H1 _ _ (by omega) (by omega) (by omega)
  · rw [r.off (i := p) (by omega), r.off (i := q) (by omega)]
    exact H2 _ _ (by omega) h2 h3
theorem tests {a s m e b : Nat} {d d1 : Array α} {p : α → α → Prop} (r : Rot s m e d d1) (asl : a ≤ s) (sm : s ≤ m) (me : m ≤ e) (eb : e ≤ b) (H : ∀ i j, a ≤ i → i < m → m ≤ j → j < b → p d[j]! d[i]!) :
    (∀ i j, a ≤ i → i < s → s ≤ j → j < s + (e - m) → p d1[j]! d1[i]!) ∧ (∀ i j, s + (e - m) ≤ i → i < e → e ≤ j → j < b → p d1[j]! d1[i]!) := by
  refine ⟨fun i j h1 h2 h3 h4 => ?_, fun i j h1 h2 h3 h4 => ?_⟩
  · rw [r.off (i := i) (by omega), r.one (i := j) h3 h4]
    exact H _ _ h1 (by omega) (by omega) (by omega)
  · rw [r.two (i := i) h1 h2, r.off (i := j) (by omega)]
    exact H _ _ (by omega) (by omega) (by omega) h4
theorem sorted_one {a s c : Nat} {d : Array α} (h1 : SortedIn lt a s d) (h2 : SortedIn lt s c d) (asl : a ≤ s) (sc : s ≤ c) (n : ¬ (a < s ∧ s < c)) : SortedIn lt a c d := by
  by_cases z : a = s
  · subst z; exact h2
  · obtain rfl : s = c := by omega
    exact h1
theorem sorted_perm {lo hi a b : Nat} {d d' : Array α} (h : SortedIn lt lo hi d) (P : PermIn a b d d') (o : hi ≤ a ∨ b ≤ lo) : SortedIn lt lo hi d' := fun i j h1 h2 h3 => by
  rw [P.2.1 i (by omega), P.2.1 j (by omega)]
  exact h i j h1 h2 h3
theorem ins_perm (l : α → α → Bool) (a : Nat) : ∀ (j : Nat) (d : Array α), a ≤ j → j < d.size → PermIn a (j + 1) d (insInner l a j d)
  | 0, d, h1, h2 => permIn_refl _ _ _
  | j + 1, d, h1, h2 => by
    unfold insInner
    split
    · rename_i c
      simp only [Bool.and_eq_true, decide_eq_true_eq] at c
      have i := ins_perm l a j (swp d (j + 1) j) (by omega) (by rw [size_swp]; omega)
      exact permIn_trans _ _ _ _ _ (swp_permIn d a (j + 2) (j + 1) j (by omega) (by omega) (by omega) (by omega) (by omega)) (permIn_mono _ _ _ _ _ _ (Nat.le_refl _) (by omega) (by rw [size_swp]; omega) i)
    · exact permIn_refl _ _ _
theorem ins_inner {l0 l1 : α → α → Bool} (a : Nat) : ∀ (j : Nat) (d : Array α), j < d.size → (∀ k, a ≤ k → k < j → l0 d[j]! d[k]! = l1 d[j]! d[k]!) → insInner l0 a j d = insInner l1 a j d
  | 0, d, _, _ => rfl
  | j + 1, d, h, e => by
    unfold insInner
    by_cases c : a ≤ j
    · rw [e j c (by omega)]
      split
      · refine ins_inner a j _ (by rw [size_swp]; omega) fun k k1 k2 => ?_
        rw [swp_right _ _ _ (by omega), swp_other _ _ _ _ (by omega) (by omega)]
        exact e k k1 (by omega)
      · rfl
    · have n : decide (j + 1 > a) = false := by simp; omega
      rw [n]
      rfl
theorem ins_outer {l0 l1 : α → α → Bool} (a b : Nat) : ∀ (n i : Nat) (d : Array α), b - i ≤ n → a ≤ i → b ≤ d.size → (∀ p q, i ≤ p → p < b → a ≤ q → q < p → l0 d[p]! d[q]! = l1 d[p]! d[q]!) → insOuter l0 a b i d = insOuter l1 a b i d
  | 0, i, d, h1, h2, h3, e => by
    unfold insOuter
    rw [if_neg (by omega), if_neg (by omega)]
  | n + 1, i, d, h1, h2, h3, e => by
    unfold insOuter
    by_cases c : i < b
    · rw [if_pos c, if_pos c, ins_inner (l0 := l0) (l1 := l1) a i d (by omega) (fun k k1 k2 => e i k (Nat.le_refl _) c k1 k2)]
      have P := ins_perm l1 a i d h2 (by omega)
      refine ins_outer a b n (i + 1) _ (by omega) (by omega) (by rw [P.1]; exact h3) fun p q p1 p2 q1 q2 => ?_
      rw [P.2.1 p (by omega)]
      by_cases z : q < i + 1
      · exact permIn_all _ _ a (i + 1) (fun x => l0 d[p]! x = l1 d[p]! x) (by omega) P (fun q s1 s2 => e p q (by omega) p2 s1 (by omega)) q q1 z
      · rw [P.2.1 q (by omega)]
        exact e p q (by omega) p2 q1 q2
    · rw [if_neg c, if_neg c]
theorem ins_eq {l0 l1 : α → α → Bool} {a b : Nat} {d : Array α} (hb : b ≤ d.size) (e : ∀ p q, p < b → a ≤ q → q < p → l0 d[p]! d[q]! = l1 d[p]! d[q]!) : insertionSort l0 d a b = insertionSort l1 d a b :=
  ins_outer a b (b - (a + 1)) (a + 1) d (Nat.le_refl _) (by omega) hb fun p q p1 p2 q1 q2 => e p q p2 q1 q2
theorem inner_go {l : α → α → Bool} {a j : Nat} {d : Array α} (hj : a < j) (hl : l d[j]! d[j - 1]! = true) : insInner l a j d = insInner l a (j - 1) (swp d j (j - 1)) := by
  obtain ⟨k, rfl⟩ : ∃ k, j = k + 1 := ⟨j - 1, by omega⟩
  rw [insInner]
  simp only [Nat.add_sub_cancel] at hl ⊢
  simp [hj, hl]
theorem inner_stop {l : α → α → Bool} {a j : Nat} {d : Array α} (h : j ≤ a ∨ l d[j]! d[j - 1]! = false) : insInner l a j d = d := by
  cases j with
  | zero => rw [insInner]
  | succ k =>
    rw [insInner]
    rcases h with h | h
    · rw [if_neg (by simp; omega)]
    · simp only [Nat.add_sub_cancel] at h
      rw [if_neg (by simp [h])]
theorem outer_go {l : α → α → Bool} {a b i : Nat} {d : Array α} (h : i < b) : insOuter l a b i d = insOuter l a b (i + 1) (insInner l a i d) := by rw [insOuter, if_pos h]
theorem outer_stop {l : α → α → Bool} {a b i : Nat} {d : Array α} (h : ¬ i < b) : insOuter l a b i d = d := by rw [insOuter, if_neg h]
variable (tg : α → Nat) (lt : α → α → Bool)
structure Good (lo hi : Nat) (d : Array α) : Prop where
  t : ∀ i, lo ≤ i → i < hi → lo ≤ tg d[i]! ∧ tg d[i]! < hi
  s : SortedIn lt lo hi d
def To (bs e : Nat) (d : Array α) : Prop := ∀ k, k * bs < e → Good tg lt (k * bs) (min (k * bs + bs) e) d
def Fr (bs a n : Nat) (d : Array α) : Prop := ∀ k, a + k * bs < n → Good tg lt (a + k * bs) (min (a + k * bs + bs) n) d
variable {tg lt}
theorem Good.same {lo hi : Nat} {d d' : Array α} (h : Good tg lt lo hi d) (e : ∀ i, lo ≤ i → i < hi → d'[i]! = d[i]!) : Good tg lt lo hi d' :=
  ⟨fun i h1 h2 => by rw [e i h1 h2]; exact h.t i h1 h2, fun i j h1 h2 h3 => by rw [e i h1 (by omega), e j (by omega) h3]; exact h.s i j h1 h2 h3⟩
theorem Good.of_perm {lo hi : Nat} {d d' : Array α} (hb : hi ≤ d.size) (t : ∀ i, lo ≤ i → i < hi → lo ≤ tg d[i]! ∧ tg d[i]! < hi) (P : PermIn lo hi d d') (s : SortedIn lt lo hi d') : Good tg lt lo hi d' :=
  ⟨permIn_all d d' lo hi (fun x => lo ≤ tg x ∧ tg x < hi) hb P t, s⟩
theorem To.zero (bs : Nat) (d : Array α) : To tg lt bs 0 d := fun k h => absurd h (by omega)
theorem To.same {bs e : Nat} {d d' : Array α} (h : To tg lt bs e d) (q : ∀ i, i < e → d'[i]! = d[i]!) : To tg lt bs e d' := fun k hk => (h k hk).same fun i h1 h2 => q i (by omega)
theorem Fr.same {bs a n : Nat} {d d' : Array α} (h : Fr tg lt bs a n d) (q : ∀ i, a ≤ i → d'[i]! = d[i]!) : Fr tg lt bs a n d' := fun k hk => (h k hk).same fun i h1 h2 => q i (by omega)
theorem To.snoc {bs e n K : Nat} {d : Array α} (h : To tg lt bs e d) (he : e = K * bs) (hb : 0 < bs) (g : Good tg lt e (min (e + bs) n) d) (hn : e < n) : To tg lt bs (min (e + bs) n) d := fun k hk => by
  rcases Nat.lt_trichotomy k K with z | z | z
  · have : k * bs + bs ≤ K * bs := by
      have := Nat.mul_le_mul_right bs (show k + 1 ≤ K by omega)
      rwa [Nat.succ_mul] at this
    have q := h k (by omega)
    rwa [show min (k * bs + bs) (min (e + bs) n) = min (k * bs + bs) e by omega]
  · subst z
    rw [← he]
    rwa [show min (e + bs) (min (e + bs) n) = min (e + bs) n by omega]
  · have := Nat.mul_le_mul_right bs (show K + 1 ≤ k by omega)
    rw [Nat.succ_mul] at this
    omega
theorem Fr.head {bs a n : Nat} {d : Array α} (h : Fr tg lt bs a n d) (hn : a < n) : Good tg lt a (min (a + bs) n) d := by
  have := h 0 (by rw [Nat.zero_mul]; omega)
  rwa [Nat.zero_mul, Nat.add_zero] at this
theorem Fr.tail {bs a n : Nat} {d : Array α} (h : Fr tg lt bs a n d) : Fr tg lt bs (a + bs) n d := fun k hk => by
  have e : a + (k + 1) * bs = a + bs + k * bs := by rw [Nat.succ_mul]; omega
  have := h (k + 1) (by omega)
  rwa [e] at this
theorem Fr.of_to {bs n : Nat} {d : Array α} (h : To tg lt bs n d) : Fr tg lt bs 0 n d := fun k hk => by
  rw [Nat.zero_add] at hk ⊢
  exact h k hk
theorem To.all {bs n : Nat} {d : Array α} (h : To tg lt bs n d) (hn : n ≤ bs) : SortedIn lt 0 n d := by
  rcases Nat.eq_zero_or_pos n with z | z
  · subst z
    exact fun i j h1 h2 h3 => absurd h3 (by omega)
  · have := (h 0 (by rw [Nat.zero_mul]; exact z)).s
    rwa [Nat.zero_mul, show min (0 + bs) n = n by omega] at this
theorem To.push {bs e K : Nat} {d : Array α} (h : To tg lt bs e d) (he : e = K * bs) (hb : 0 < bs) (g : Good tg lt e (e + bs) d) : To tg lt bs (e + bs) d := by
  have := h.snoc (n := e + bs) he hb (by rwa [Nat.min_self]) (by omega)
  rwa [Nat.min_self] at this
theorem To.last {bs e n K : Nat} {d : Array α} (h : To tg lt bs e d) (he : e = K * bs) (hb : 0 < bs) (g : Good tg lt e n d) (h1 : e < n) (h2 : n ≤ e + bs) : To tg lt bs n d := by
  have := h.snoc (n := n) he hb (by rwa [show min (e + bs) n = n by omega]) h1
  rwa [show min (e + bs) n = n by omega] at this
theorem Good.merge {a m b : Nat} {d d' : Array α} (am : a ≤ m) (mb : m ≤ b) (hb : b ≤ d.size) (G1 : Good tg lt a m d) (G2 : Good tg lt m b d) (P : PermIn a b d d') (s : SortedIn lt a b d') : Good tg lt a b d' :=
  Good.of_perm hb (fun i h1 h2 => by
    by_cases z : i < m
    · have := G1.t i h1 z; omega
    · have := G2.t i (by omega) h2; omega) P s
end St
end Go.Proofs.YtpanlcnoopmchaaGreat

namespace Go.Proofs.YtpanlcnoopmchaaGreat
open Go Go.Sort Go.RowKit V
set_option maxHeartbeats 4000000
structure Qu where
  pl : Int
  le : Int
instance : Inhabited Qu := ⟨⟨0, 0⟩⟩
structure Qt where
  q : Qu
  tg : Nat
instance : Inhabited Qt := ⟨⟨default, 0⟩⟩
def less (cf : Qt → Qt → Int) (x y : Qt) : Bool := decide (cf x y < 0)
end Go.Proofs.YtpanlcnoopmchaaGreat

namespace Go.Proofs.YtpanlcnoopmchaaGreat
open Go Go.Sort Go.RowKit V
set_option maxHeartbeats 4000000
end Go.Proofs.YtpanlcnoopmchaaGreat

namespace Go.Proofs.YtpanlcnoopmchaaGreat
open Go Go.Sort Go.RowKit V
set_option maxHeartbeats 4000000
theorem _root_.Go.Proofs.YtpanlcnoopmchaaGreat.V.NShr.mid {i j : Nat} {K : Int → Prop} (hK : K (((i + j) / 2 : Nat) : Int)) : V.NShr .u64 ((i : Int) + j) 1 K := by
  refine ⟨by decide, ?_⟩
  have e : ((i : Int) + j).fdiv (2 ^ (min (1 : Int).toNat IntKind.u64.bits)) = (((i + j) / 2 : Nat) : Int) := by
    rw [show (2 : Int) ^ (min (1 : Int).toNat IntKind.u64.bits) = 2 from by decide, Int.fdiv_eq_ediv_of_nonneg _ (by decide)]
    omega
  rw [e]
  exact hK
end Go.Proofs.YtpanlcnoopmchaaGreat

namespace Go.Proofs.YtpanlcnoopmchaaGreat
open Go Go.Sort Go.RowKit V
set_option maxHeartbeats 4000000
end Go.Proofs.YtpanlcnoopmchaaGreat

namespace Go.Proofs.YtpanlcnoopmchaaGreat
open Go Go.Sort Go.RowKit V
set_option maxHeartbeats 4000000
end Go.Proofs.YtpanlcnoopmchaaGreat

namespace Go.Proofs.YtpanlcnoopmchaaGreat
open Go Go.Sort Go.RowKit V
set_option maxHeartbeats 4000000
end Go.Proofs.YtpanlcnoopmchaaGreat

namespace Go.Proofs.YtpanlcnoopmchaaGreat
open Go Go.Sort Go.RowKit V
set_option maxHeartbeats 4000000
def cmpI (u v : Int) : Int := if u < v then -1 else if v < u then 1 else 0
theorem v_isNaN (x : Int) : V.Fn Tryz.prog 155 [] [.one (.val (.int .i64 x))] (.bool false) := by
  refine V.Fn.mk_ V.Tok V.mixed Tryz.func155 rfl Tryz.ntmps155 (by kernel_rfl) rfl rfl ?_
  repeat' ((conv => whnf); first | refine V.NCond.mk ?_ | refine V.NPick.l ?_ | refine V.NIf.not_ ?_ | refine V.NIf.dec_ ?_ | refine V.a4 ?_ | refine V.a5 ?_ | refine V.NIf.mk (fun _ => ?_) (fun _ => ?_) | refine V.a7 ?_ | refine V.a8 ?_ | refine V.a9 ?_ | refine V.NBoth.mk ?_ ?_ | refine V.b1 ?_ | refine V.b2 ?_ | refine V.NTF.dec ?_ | refine V.b3 ?_ | refine V.b4 ?_ | (refine V.NDraw.any (by kernel_rfl) ?_) | fail)
  all_goals (conv => whnf)
  all_goals first
    | rfl
    | exact ⟨false, rfl, iff_of_false (by omega) (by decide)⟩
    | trace_state
theorem v_compare (u v : Int) : V.Fn Tryz.prog 132 [] [.one (.val (.int .i64 u)), .one (.val (.int .i64 v))] (.int .i64 (cmpI u v)) := by
  have c1 : u < v → cmpI u v = -1 := fun h => if_pos h
  have c2 : ¬ u < v → v < u → cmpI u v = 1 := fun h k => (if_neg h).trans (if_pos k)
  have c3 : ¬ u < v → ¬ v < u → cmpI u v = 0 := fun h k => (if_neg h).trans (if_neg k)
  refine V.Fn.mk_ V.Tok V.mixed Tryz.func132 rfl Tryz.ntmps132 (by kernel_rfl) rfl rfl ?_
  repeat' ((conv => whnf); first | (refine V.NIf.yes ?_ ?_; · (decide; done)) | (refine V.NIf.no ?_ ?_; · (decide; done)) | refine V.NCond.mk ?_ | refine V.NPick.l ?_ | refine V.NIf.not_ ?_ | refine V.NIf.dec_ ?_ | refine V.a4 ?_ | refine V.a5 ?_ | refine V.NIf.mk (fun _ => ?_) (fun _ => ?_) | refine V.a7 ?_ | refine V.a8 ?_ | refine V.a9 ?_ | refine V.NBoth.mk ?_ ?_ | refine V.b1 ?_ | refine V.b2 ?_ | refine V.NTF.dec ?_ | refine V.b3 ?_ | refine V.b4 ?_ | (first | refine V.Fn.k0 (v_isNaN _) rfl ?_ | refine V.Fn.q0 (v_isNaN _) rfl ?_ | refine V.Fn.a0 (v_isNaN _) rfl ?_) | (refine V.NDraw.any (by kernel_rfl) ?_) | fail)
  all_goals (conv => whnf)
  · rw [c1 (by assumption)]
  · rw [c2 (by assumption) (by assumption)]
  · rw [c3 (by assumption) (by assumption)]
end Go.Proofs.YtpanlcnoopmchaaGreat

namespace Go.Proofs.YtpanlcnoopmchaaGreat
open Go Go.Sort Go.RowKit V
set_option maxHeartbeats 4000000
def orI (u v : Int) : Int := if u = 0 then v else u
theorem v_or (u v : Int) : V.Fn Tryz.prog 131 [.arr 1 2 (ga e1 [u, v])] [.one (.ref 0)] (.int .i64 (orI u v)) := by
  have o1 : ¬ u = 0 → orI u v = u := fun h => if_neg h
  have o2 : u = 0 → orI u v = v := fun h => if_pos h
  refine V.Fn.mk_ V.Tok V.mixed Tryz.func131 rfl Tryz.ntmps131 (by kernel_rfl) rfl rfl ?_
  repeat' ((conv => whnf); first | refine V.NCond.mk ?_ | refine V.NPick.l ?_ | refine V.NIf.not_ ?_ | refine V.NIf.dec_ ?_ | refine V.a4 ?_ | refine V.a5 ?_ | refine V.NIf.mk (fun _ => ?_) (fun _ => ?_) | refine V.a7 ?_ | refine V.a8 ?_ | refine V.a9 ?_ | refine V.NBoth.mk ?_ ?_ | refine V.b1 ?_ | refine V.b2 ?_ | refine V.NTF.dec ?_ | refine V.b3 ?_ | refine V.b4 ?_ | (refine V.NDraw.any (by kernel_rfl) ?_) | fail)
  all_goals (conv => whnf)
  refine V.NLoop.auto (fun (k : Nat) => [(8, .one (.val (.int .i64 k)))]) (fun (k : Nat) => []) [] [] (fun (k : Nat) => 2 - k) (fun (k : Nat) => k ≤ 2 ∧ (0 < k → u = 0) ∧ (1 < k → v = 0)) 0 ⟨Nat.zero_le _, fun h => absurd h (by decide), fun h => absurd h (by decide)⟩ V.S_ V.S_ (fun _ => ⟨rfl, rfl⟩) ?_; (conv => whnf); refine ⟨⟨rfl, rfl⟩, ?_⟩
  rintro k ⟨hk, h1, h2⟩
  match k, hk with
  | 0, _ =>
    repeat' ((conv => whnf); first | refine V.NCond.mk ?_ | refine V.NPick.l ?_ | refine V.NIf.not_ ?_ | refine V.NIf.dec_ ?_ | refine V.a4 ?_ | refine V.a5 ?_ | refine V.NIf.mk (fun _ => ?_) (fun _ => ?_) | refine V.a7 ?_ | refine V.a8 ?_ | refine V.a9 ?_ | refine V.NBoth.mk ?_ ?_ | refine V.b1 ?_ | refine V.b2 ?_ | refine V.NTF.dec ?_ | refine V.b3 ?_ | refine V.b4 ?_ | (refine NIdx.mk ⟨0, rfl, by omega, ?_⟩) | (refine V.NDraw.any (by kernel_rfl) ?_) | fail)
    all_goals (conv => whnf)
    all_goals first
      | exact V.fin1 (o1 (by assumption))
      | (rename_i q; exact V.NBack.at_ 1 [] ⟨by omega, fun _ => q, fun h => absurd h (by decide)⟩ (by omega) V.S_ rfl V.S_ V.S_ V.S_)
  | 1, _ =>
    have := h1 (by decide)
    repeat' ((conv => whnf); first | refine V.NCond.mk ?_ | refine V.NPick.l ?_ | refine V.NIf.not_ ?_ | refine V.NIf.dec_ ?_ | refine V.a4 ?_ | refine V.a5 ?_ | refine V.NIf.mk (fun _ => ?_) (fun _ => ?_) | refine V.a7 ?_ | refine V.a8 ?_ | refine V.a9 ?_ | refine V.NBoth.mk ?_ ?_ | refine V.b1 ?_ | refine V.b2 ?_ | refine V.NTF.dec ?_ | refine V.b3 ?_ | refine V.b4 ?_ | (refine NIdx.mk ⟨1, rfl, by omega, ?_⟩) | (refine V.NDraw.any (by kernel_rfl) ?_) | fail)
    all_goals (conv => whnf)
    all_goals first
      | exact V.fin1 (o2 this)
      | (rename_i q; exact V.NBack.at_ 2 [] ⟨by omega, fun _ => this, fun _ => q⟩ (by omega) V.S_ rfl V.S_ V.S_ V.S_)
  | 2, _ =>
    have a := h1 (by decide)
    have b := h2 (by decide)
    repeat' ((conv => whnf); first | refine V.NCond.mk ?_ | refine V.NPick.l ?_ | refine V.NIf.not_ ?_ | refine V.NIf.dec_ ?_ | refine V.a4 ?_ | refine V.a5 ?_ | refine V.NIf.mk (fun _ => ?_) (fun _ => ?_) | refine V.a7 ?_ | refine V.a8 ?_ | refine V.a9 ?_ | refine V.NBoth.mk ?_ ?_ | refine V.b1 ?_ | refine V.b2 ?_ | refine V.NTF.dec ?_ | refine V.b3 ?_ | refine V.b4 ?_ | (refine V.NDraw.any (by kernel_rfl) ?_) | fail)
    all_goals (conv => whnf)
    exact V.fin1 ((o2 a).trans b)
theorem cmpI_lt' (u v : Int) : decide (cmpI u v < 0) = decide (u < v) := by
  unfold cmpI
  by_cases q : u < v
  · rw [if_pos q]; simp [q]
  · rw [if_neg q]
    by_cases q2 : v < u
    · rw [if_pos q2]; simp; omega
    · rw [if_neg q2]; simp; omega
theorem orI_lt (a b c d : Int) : decide (orI (cmpI a b) (cmpI c d) < 0) = decide (a < b ∨ (a = b ∧ c < d)) := by
  have h1 := cmpI_lt' a b
  have h2 := cmpI_lt' c d
  rw [decide_eq_decide] at h1 h2 ⊢
  have z : cmpI a b = 0 ↔ a = b := by
    unfold cmpI
    by_cases q : a < b
    · rw [if_pos q]; omega
    · rw [if_neg q]
      by_cases q2 : b < a
      · rw [if_pos q2]; omega
      · rw [if_neg q2]; omega
  unfold orI
  by_cases q : cmpI a b = 0
  · rw [if_pos q]
    have := z.1 q
    omega
  · rw [if_neg q]
    have : ¬ a = b := fun e => q (z.2 e)
    omega
end Go.Proofs.YtpanlcnoopmchaaGreat

namespace Go.Proofs.YtpanlcnoopmchaaGreat
open Go Go.Sort Go.RowKit V
set_option maxHeartbeats 4000000
structure PtT where
  q : Po
  tg : Nat
instance : Inhabited PtT := ⟨⟨default, 0⟩⟩
def encTP (x : PtT) : List Go.Value := [.int .i64 x.q.ac, .int .i64 x.q.ut, .int .i64 x.q.am]
theorem arr_getP {d : Array PtT} {k : Nat} : d.toList.getD k default = d[k]! := by
  rw [List.getD_eq_getElem?_getD, Array.getElem?_toList]
  by_cases h : k < d.size
  · rw [getElem!_pos d k h, Array.getElem?_eq_getElem h]; rfl
  · rw [getElem!_neg d k h, Array.getElem?_eq_none (by omega)]; rfl
theorem swp_listP (d : Array PtT) (i j : Nat) : (swp d i j).toList = (d.toList.set i d[j]!).set j d[i]! := by simp [swp]
theorem v_swapP (nx : Nat) (O : Obs) (hT : Tail (nx + 1) O) (g : FuncId) (d : Array PtT) (a b n : Nat) (h1 : a + n ≤ b) (h2 : b + n ≤ d.size) (h3 : d.size ≤ 4611686018427387904) :
    Fam Tryz.prog 176 [.one (.ref 0), .one (.val (.int .i64 ((a : Int)))), .one (.val (.int .i64 ((b : Int)))), .one (.val (.int .i64 ((n : Int)))), .one (.clo g [])] 65 3 d.size (ga encTP d.toList) nx O (fun r => ∃ d', St.Sw a b n d d' ∧ r = ga encTP d'.toList) := by
  refine Fam.mk hT ?_
  refine V.NCall.inl (f := 176) V.Tok V.mixed Tryz.func176 rfl Tryz.ntmps176 (by kernel_rfl) rfl ?_
  repeat' ((conv => whnf); first | refine V.NCond.mk ?_ | refine V.NPick.l ?_ | refine V.NIf.not_ ?_ | refine V.NIf.dec_ ?_ | refine V.a4 ?_ | refine V.a5 ?_ | refine V.NIf.mk (fun _ => ?_) (fun _ => ?_) | refine V.a7 ?_ | refine V.a8 ?_ | refine V.a9 ?_ | refine V.NBoth.mk ?_ ?_ | refine V.b1 ?_ | refine V.b2 ?_ | refine V.NTF.dec ?_ | refine V.b3 ?_ | refine V.b4 ?_ | (refine V.NDraw.any (by kernel_rfl) ?_) | fail)
  all_goals (conv => whnf)
  refine NLoop.fam hT (fun (i : Nat × Array PtT) => [(10, .one (.val (.int .i64 i.1)))]) [(0, .one (.ref 0)), (1, .one (.val (.int .i64 a))), (2, .one (.val (.int .i64 b))), (3, .one (.val (.int .i64 n))), (4, .one (.clo g []))] 65 3 d.size (fun i => ga encTP i.2.toList) (fun i => n - i.1) (fun i => i.1 ≤ n ∧ St.Sw a b i.1 d i.2) (0, d) ⟨Nat.zero_le _, St.Sw.zero a b d⟩ [(0, _)] rfl rfl rfl (fun k hk => rfl) V.S_ (fun _ => rfl) rfl ?_
  rintro ⟨i, d1⟩ ⟨hi, hS⟩
  dsimp only at hi hS ⊢
  by_cases hlt : i < n
  · have st := hS.succ (by omega) (by omega)
    have sz := hS.1
    have e1 := arr_getP (d := d1) (k := a + i)
    have e2 := arr_getP (d := d1) (k := b + i)
    have e3 := swp_listP d1 (a + i) (b + i)
    rw [← e1, ← e2] at e3
    repeat' ((conv => whnf); first | refine V.NCond.mk ?_ | refine V.NPick.l ?_ | refine V.NIf.not_ ?_ | refine V.NIf.dec_ ?_ | refine V.a4 ?_ | refine V.a5 ?_ | refine V.NIf.mk (fun _ => ?_) (fun _ => ?_) | refine V.a7 ?_ | refine V.a8 ?_ | refine V.a9 ?_ | refine V.NBoth.mk ?_ ?_ | refine V.b1 ?_ | refine V.b2 ?_ | refine V.NTF.dec ?_ | refine V.b3 ?_ | refine V.b4 ?_ | (refine NIdx.mk ⟨a + i, by omega, by omega, ?_⟩) | (refine NIdx.mk ⟨b + i, by omega, by omega, ?_⟩) | (refine NPut.is_ (en := encTP) (l := d1.toList) (d1.toList.getD (b + i) default) (d1.toList.set (a + i) (d1.toList.getD (b + i) default)) rfl (by simp [sz]) rfl ?_) | (refine NPut.is_ (en := encTP) (l := d1.toList.set (a + i) (d1.toList.getD (b + i) default)) (d1.toList.getD (a + i) default) (swp d1 (a + i) (b + i)).toList e3.symm (by simp [sz]) rfl ?_) | (refine V.NDraw.any (by kernel_rfl) ?_) | fail)
    all_goals (conv => whnf)
    exact FBack.at_ hT (i + 1, swp d1 (a + i) (b + i)) [(0, _), (0, _), (0, _)] ⟨by dsimp only; omega, st⟩ (by dsimp only; omega) V.S_ rfl rfl rfl (fun k hk => rfl)
  · obtain rfl : i = n := by omega
    repeat' ((conv => whnf); first | refine V.NCond.mk ?_ | refine V.NPick.l ?_ | refine V.NIf.not_ ?_ | refine V.NIf.dec_ ?_ | refine V.a4 ?_ | refine V.a5 ?_ | refine V.NIf.mk (fun _ => ?_) (fun _ => ?_) | refine V.a7 ?_ | refine V.a8 ?_ | refine V.a9 ?_ | refine V.NBoth.mk ?_ ?_ | refine V.b1 ?_ | refine V.b2 ?_ | refine V.NTF.dec ?_ | refine V.b3 ?_ | refine V.b4 ?_ | (refine V.NDraw.any (by kernel_rfl) ?_) | fail)
    all_goals (conv => whnf)
    exact ⟨rfl, rfl, [(0, _)], _, rfl, rfl, rfl, d1, hS, rfl⟩
theorem v_rotP (nx : Nat) (O : Obs) (hT : Tail (nx + 1) O) (g : FuncId) (d : Array PtT) (a m b : Nat) (h1 : a ≤ m) (h2 : m ≤ b) (h3 : b ≤ d.size) (h4 : a < m) (h5 : m < b) (h6 : d.size ≤ 4611686018427387904) :
    Fam Tryz.prog 173 [.one (.ref 0), .one (.val (.int .i64 ((a : Int)))), .one (.val (.int .i64 ((m : Int)))), .one (.val (.int .i64 ((b : Int)))), .one (.clo g [])] 65 3 d.size (ga encTP d.toList) nx O (fun r => ∃ d', St.Rot a m b d d' ∧ r = ga encTP d'.toList) := by
  refine Fam.mk hT ?_
  refine V.NCall.inl (f := 173) V.Tok V.mixed Tryz.func173 rfl Tryz.ntmps173 (by kernel_rfl) rfl ?_
  repeat' ((conv => whnf); first | refine V.NCond.mk ?_ | refine V.NPick.l ?_ | refine V.NIf.not_ ?_ | refine V.NIf.dec_ ?_ | refine V.a4 ?_ | refine V.a5 ?_ | refine V.NIf.mk (fun _ => ?_) (fun _ => ?_) | refine V.a7 ?_ | refine V.a8 ?_ | refine V.a9 ?_ | refine V.NBoth.mk ?_ ?_ | refine V.b1 ?_ | refine V.b2 ?_ | refine V.NTF.dec ?_ | refine V.b3 ?_ | refine V.b4 ?_ | (refine V.NDraw.any (by kernel_rfl) ?_) | fail)
  all_goals (conv => whnf)
  refine NLoop.fam hT (fun (s : Nat × Nat × Array PtT) => [(10, .one (.val (.int .i64 s.1))), (11, .one (.val (.int .i64 s.2.1)))]) [(0, .one (.ref 0)), (1, .one (.val (.int .i64 a))), (2, .one (.val (.int .i64 m))), (3, .one (.val (.int .i64 b))), (4, .one (.clo g []))] 65 3 d.size (fun s => ga encTP s.2.2.toList) (fun s => s.1 + s.2.1) (fun s => 0 < s.1 ∧ 0 < s.2.1 ∧ s.1 ≤ m - a ∧ s.2.1 ≤ b - m ∧ s.2.2.size = d.size ∧ ∀ d', St.Rot (m - s.1) m (m + s.2.1) s.2.2 d' → St.Rot a m b d d') (m - a, b - m, d) ⟨by dsimp only; omega, by dsimp only; omega, Nat.le_refl _, Nat.le_refl _, rfl, fun d' r => by dsimp only at r; rwa [show m - (m - a) = a by omega, show m + (b - m) = b by omega] at r⟩ [(0, _)] rfl rfl rfl (fun k hk => rfl) ?_ (fun _ => rfl) rfl ?_
  · exact ⟨congrArg (fun z : Int => SV.one (At.val (Value.int .i64 z))) (show (m : Int) - a = ((m - a : Nat) : Int) by omega), congrArg (fun z : Int => SV.one (At.val (Value.int .i64 z))) (show (b : Int) - m = ((b - m : Nat) : Int) by omega), rfl, rfl, rfl, rfl, rfl, trivial⟩
  rintro ⟨i, j, d1⟩ ⟨hi0, hj0, hi, hj, sz, hR⟩
  dsimp only at hi0 hj0 hi hj sz hR ⊢
  have k1 : ((m - i : Nat) : Int) = (m : Int) - i := by omega
  by_cases e : i = j
  · subst e
    have c := v_swapP nx O hT g d1 (m - i) m i (by omega) (by omega) (by omega)
    rw [sz, k1] at c
    repeat' ((conv => whnf); first | refine V.NCond.mk ?_ | refine V.NPick.l ?_ | refine V.NIf.not_ ?_ | refine V.NIf.dec_ ?_ | refine V.a4 ?_ | refine V.a5 ?_ | refine V.NIf.mk (fun _ => ?_) (fun _ => ?_) | refine V.a7 ?_ | refine V.a8 ?_ | refine V.a9 ?_ | refine V.NBoth.mk ?_ ?_ | refine V.b1 ?_ | refine V.b2 ?_ | refine V.NTF.dec ?_ | refine V.b3 ?_ | refine V.b4 ?_ | (refine Fam.use c hT [(0, _)] rfl rfl rfl (fun k hk => rfl) ?_; rintro g' ⟨d2, hS, rfl⟩) | (refine V.NDraw.any (by kernel_rfl) ?_) | fail)
    all_goals (conv => whnf)
    exact ⟨rfl, rfl, [(0, _)], _, rfl, rfl, rfl, d2, hR d2 (St.rot_end (by omega) hS), rfl⟩
  · by_cases lt : j < i
    · have c := v_swapP nx O hT g d1 (m - i) m j (by omega) (by omega) (by omega)
      rw [sz, k1] at c
      repeat' ((conv => whnf); first | refine V.NCond.mk ?_ | refine V.NPick.l ?_ | refine V.NIf.not_ ?_ | refine V.NIf.dec_ ?_ | refine V.a4 ?_ | refine V.a5 ?_ | refine V.NIf.mk (fun _ => ?_) (fun _ => ?_) | refine V.a7 ?_ | refine V.a8 ?_ | refine V.a9 ?_ | refine V.NBoth.mk ?_ ?_ | refine V.b1 ?_ | refine V.b2 ?_ | refine V.NTF.dec ?_ | refine V.b3 ?_ | refine V.b4 ?_ | (refine Fam.use c hT [(0, _)] rfl rfl rfl (fun k hk => rfl) ?_; rintro g' ⟨d2, hS, rfl⟩) | (refine V.NDraw.any (by kernel_rfl) ?_) | fail)
      all_goals (conv => whnf)
      exact FBack.at_ hT (i - j, j, d2) [(0, _)] ⟨by dsimp only; omega, hj0, by dsimp only; omega, hj, by dsimp only; rw [hS.1, sz], fun d' r => hR d' (St.rot_left (by omega) hj0 lt hS r)⟩ (by dsimp only; omega) ⟨congrArg (fun z : Int => SV.one (At.val (Value.int .i64 z))) (show (i : Int) - j = ((i - j : Nat) : Int) by omega), rfl, rfl, rfl, rfl, rfl, rfl, trivial⟩ rfl rfl rfl (fun k hk => rfl)
    · have c := v_swapP nx O hT g d1 (m - i) (m + j - i) i (by omega) (by omega) (by omega)
      rw [sz, k1, show ((m + j - i : Nat) : Int) = (m : Int) + j - i by omega] at c
      repeat' ((conv => whnf); first | refine V.NCond.mk ?_ | refine V.NPick.l ?_ | refine V.NIf.not_ ?_ | refine V.NIf.dec_ ?_ | refine V.a4 ?_ | refine V.a5 ?_ | refine V.NIf.mk (fun _ => ?_) (fun _ => ?_) | refine V.a7 ?_ | refine V.a8 ?_ | refine V.a9 ?_ | refine V.NBoth.mk ?_ ?_ | refine V.b1 ?_ | refine V.b2 ?_ | refine V.NTF.dec ?_ | refine V.b3 ?_ | refine V.b4 ?_ | (refine Fam.use c hT [(0, _)] rfl rfl rfl (fun k hk => rfl) ?_; rintro g' ⟨d2, hS, rfl⟩) | (refine V.NDraw.any (by kernel_rfl) ?_) | fail)
      all_goals (conv => whnf)
      exact FBack.at_ hT (i, j - i, d2) [(0, _)] ⟨hi0, by dsimp only; omega, hi, by dsimp only; omega, by dsimp only; rw [hS.1, sz], fun d' r => hR d' (St.rot_right (by omega) hi0 (by omega) hS r)⟩ (by dsimp only; omega) ⟨rfl, congrArg (fun z : Int => SV.one (At.val (Value.int .i64 z))) (show (j : Int) - i = ((j - i : Nat) : Int) by omega), rfl, rfl, rfl, rfl, rfl, trivial⟩ rfl rfl rfl (fun k hk => rfl)
def CmpP (g : FuncId) (cf : PtT → PtT → Int) : Prop := ∀ x y : PtT, V.Fn Tryz.prog g [] [.agg [.val (.int .i64 x.q.ac), .val (.int .i64 x.q.ut), .val (.int .i64 x.q.am)], .agg [.val (.int .i64 y.q.ac), .val (.int .i64 y.q.ut), .val (.int .i64 y.q.am)]] (.int .i64 (cf x y))
def lessP (cf : PtT → PtT → Int) (x y : PtT) : Bool := decide (cf x y < 0)
end Go.Proofs.YtpanlcnoopmchaaGreat

namespace Go.Proofs.YtpanlcnoopmchaaGreat
open Go Go.Sort Go.RowKit V
set_option maxHeartbeats 4000000
theorem v_insP (nx : Nat) (O : Obs) (hT : Tail (nx + 1) O) (g : FuncId) (cf : PtT → PtT → Int) (hc : CmpP g cf) (d : Array PtT) (a b : Nat) (h1 : a ≤ b) (h2 : b ≤ d.size) (h3 : d.size ≤ 4611686018427387904) :
    Fam Tryz.prog 170 [.one (.ref 0), .one (.val (.int .i64 ((a : Int)))), .one (.val (.int .i64 ((b : Int)))), .one (.clo g [])] 65 3 d.size (ga encTP d.toList) nx O (fun r => r = ga encTP (insertionSort (lessP cf) d a b).toList) := by
  refine Fam.mk hT ?_
  refine V.NCall.inl (f := 170) V.Tok V.mixed Tryz.func170 rfl Tryz.ntmps170 (by kernel_rfl) rfl ?_
  repeat' ((conv => whnf); first | refine V.NCond.mk ?_ | refine V.NPick.l ?_ | refine V.NIf.not_ ?_ | refine V.NIf.dec_ ?_ | refine V.a4 ?_ | refine V.a5 ?_ | refine V.NIf.mk (fun _ => ?_) (fun _ => ?_) | refine V.a7 ?_ | refine V.a8 ?_ | refine V.a9 ?_ | refine V.NBoth.mk ?_ ?_ | refine V.b1 ?_ | refine V.b2 ?_ | refine V.NTF.dec ?_ | refine V.b3 ?_ | refine V.b4 ?_ | (refine V.NDraw.any (by kernel_rfl) ?_) | fail)
  all_goals (conv => whnf)
  refine NLoop.fam hT (fun (s : Nat × Array PtT) => [(8, .one (.val (.int .i64 s.1)))]) [(0, .one (.ref 0)), (1, .one (.val (.int .i64 a))), (2, .one (.val (.int .i64 b))), (3, .one (.clo g []))] 65 3 d.size (fun s => ga encTP s.2.toList) (fun s => b + 1 - s.1) (fun s => a + 1 ≤ s.1 ∧ s.2.size = d.size ∧ insOuter (lessP cf) a b s.1 s.2 = insertionSort (lessP cf) d a b) (a + 1, d) ⟨Nat.le_refl _, rfl, rfl⟩ [(0, _)] rfl rfl rfl (fun k hk => rfl) V.S_ (fun _ => rfl) rfl ?_
  rintro ⟨i, d1⟩ ⟨hi, sz, hI⟩
  dsimp only at hi sz hI ⊢
  by_cases hlt : i < b
  · rw [St.outer_go hlt] at hI
    repeat' ((conv => whnf); first | refine V.NCond.mk ?_ | refine V.NPick.l ?_ | refine V.NIf.not_ ?_ | refine V.NIf.dec_ ?_ | refine V.a4 ?_ | refine V.a5 ?_ | refine V.NIf.mk (fun _ => ?_) (fun _ => ?_) | refine V.a7 ?_ | refine V.a8 ?_ | refine V.a9 ?_ | refine V.NBoth.mk ?_ ?_ | refine V.b1 ?_ | refine V.b2 ?_ | refine V.NTF.dec ?_ | refine V.b3 ?_ | refine V.b4 ?_ | (refine V.NDraw.any (by kernel_rfl) ?_) | fail)
    all_goals (conv => whnf)
    refine NLoop.fam hT (fun (s : Nat × Array PtT) => [(9, .one (.val (.int .i64 s.1)))]) [(0, .one (.ref 0)), (1, .one (.val (.int .i64 a))), (2, .one (.val (.int .i64 b))), (3, .one (.clo g [])), (8, .one (.val (.int .i64 i)))] 65 3 d.size (fun s => ga encTP s.2.toList) (fun s => s.1) (fun s => a ≤ s.1 ∧ s.1 ≤ i ∧ s.2.size = d.size ∧ insInner (lessP cf) a s.1 s.2 = insInner (lessP cf) a i d1) (i, d1) ⟨by dsimp only; omega, Nat.le_refl _, sz, rfl⟩ [(0, _)] rfl rfl rfl (fun k hk => rfl) V.S_ (fun _ => rfl) rfl ?_
    rintro ⟨j, d2⟩ ⟨hj, hji, sz2, hI2⟩
    dsimp only at hj hji sz2 hI2 ⊢
    by_cases haj : a < j
    · have e1 := arr_getP (d := d2) (k := j)
      have e2 := arr_getP (d := d2) (k := j - 1)
      have e3 := swp_listP d2 j (j - 1)
      rw [← e1, ← e2] at e3
      have hcc := hc (d2.toList.getD j default) (d2.toList.getD (j - 1) default)
      have g1 := @St.inner_go _ _ (lessP cf) a j d2 haj
      have g2 := @St.inner_stop _ _ (lessP cf) a j d2
      rw [← e1, ← e2] at g1 g2
      unfold lessP at g1 g2
      generalize cf (d2.toList.getD j default) (d2.toList.getD (j - 1) default) = c at *
      repeat' ((conv => whnf); first | refine V.NCond.mk ?_ | refine V.NPick.l ?_ | refine V.NIf.not_ ?_ | refine V.NIf.dec_ ?_ | refine V.a4 ?_ | refine V.a5 ?_ | refine V.NIf.mk (fun _ => ?_) (fun _ => ?_) | refine V.a7 ?_ | refine V.a8 ?_ | refine V.a9 ?_ | refine V.NBoth.mk ?_ ?_ | refine V.b1 ?_ | refine V.b2 ?_ | refine V.NTF.dec ?_ | refine V.b3 ?_ | refine V.b4 ?_ | (refine NIdx.mk ⟨j, by omega, by omega, ?_⟩) | (refine NIdx.mk ⟨j - 1, by omega, by omega, ?_⟩) | (first | refine V.Fn.k0 (hcc) rfl ?_ | refine V.Fn.q0 (hcc) rfl ?_ | refine V.Fn.a0 (hcc) rfl ?_) | (refine NPut.is_ (en := encTP) (l := d2.toList) (d2.toList.getD (j - 1) default) (d2.toList.set j (d2.toList.getD (j - 1) default)) rfl (by simp [sz2]) rfl ?_) | (refine NPut.is_ (en := encTP) (l := d2.toList.set j (d2.toList.getD (j - 1) default)) (d2.toList.getD j default) (swp d2 j (j - 1)).toList e3.symm (by simp [sz2]) rfl ?_) | (refine V.NDraw.any (by kernel_rfl) ?_) | fail)
      all_goals (conv => whnf)
      · have hl : c < 0 := by assumption
        have hg := g1 (decide_eq_true hl)
        exact FBack.at_ hT (j - 1, swp d2 j (j - 1)) [(0, _), (0, _), (0, _)] ⟨by dsimp only; omega, by dsimp only; omega, by dsimp only; rw [size_swp, sz2], hg.symm.trans hI2⟩ (by dsimp only; omega) ⟨congrArg (fun z : Int => SV.one (At.val (Value.int .i64 z))) (show (j : Int) - 1 = ((j - 1 : Nat) : Int) by omega), rfl, rfl, rfl, rfl, rfl, trivial⟩ rfl rfl rfl (fun k hk => rfl)
      · have hl : ¬ c < 0 := by assumption
        have hs := hI2.symm.trans (g2 (.inr (decide_eq_false hl)))
        rw [hs] at hI
        exact FBack.at_ hT (i + 1, d2) [(0, _)] ⟨by dsimp only; omega, sz2, hI⟩ (by dsimp only; omega) V.S_ rfl rfl rfl (fun k hk => rfl)
    · have hs := hI2.symm.trans (@St.inner_stop _ _ (lessP cf) a j d2 (.inl (by omega)))
      rw [hs] at hI
      repeat' ((conv => whnf); first | refine V.NCond.mk ?_ | refine V.NPick.l ?_ | refine V.NIf.not_ ?_ | refine V.NIf.dec_ ?_ | refine V.a4 ?_ | refine V.a5 ?_ | refine V.NIf.mk (fun _ => ?_) (fun _ => ?_) | refine V.a7 ?_ | refine V.a8 ?_ | refine V.a9 ?_ | refine V.NBoth.mk ?_ ?_ | refine V.b1 ?_ | refine V.b2 ?_ | refine V.NTF.dec ?_ | refine V.b3 ?_ | refine V.b4 ?_ | (refine V.NDraw.any (by kernel_rfl) ?_) | fail)
      all_goals (conv => whnf)
      exact FBack.at_ hT (i + 1, d2) [(0, _)] ⟨by dsimp only; omega, sz2, hI⟩ (by dsimp only; omega) V.S_ rfl rfl rfl (fun k hk => rfl)
  · rw [St.outer_stop hlt] at hI
    repeat' ((conv => whnf); first | refine V.NCond.mk ?_ | refine V.NPick.l ?_ | refine V.NIf.not_ ?_ | refine V.NIf.dec_ ?_ | refine V.a4 ?_ | refine V.a5 ?_ | refine V.NIf.mk (fun _ => ?_) (fun _ => ?_) | refine V.a7 ?_ | refine V.a8 ?_ | refine V.a9 ?_ | refine V.NBoth.mk ?_ ?_ | refine V.b1 ?_ | refine V.b2 ?_ | refine V.NTF.dec ?_ | refine V.b3 ?_ | refine V.b4 ?_ | (refine V.NDraw.any (by kernel_rfl) ?_) | fail)
    all_goals (conv => whnf)
    exact ⟨rfl, rfl, [(0, _)], _, rfl, rfl, rfl, by rw [hI]⟩
end Go.Proofs.YtpanlcnoopmchaaGreat

namespace Go.Proofs.YtpanlcnoopmchaaGreat
open Go Go.Sort Go.RowKit V
set_option maxHeartbeats 4000000
theorem v_symAP (nx : Nat) (O : Obs) (hT : Tail (nx + 1) O) (g : FuncId) (cf : PtT → PtT → Int) (hc : CmpP g cf) (lt : PtT → PtT → Bool) (S : SWO lt) (d : Array PtT) (a b : Nat) (h1 : a + 1 < b) (h2 : b ≤ d.size) (h3 : d.size ≤ 4611686018427387903) (H2 : SortedIn lt (a + 1) b d)
    (HT : ∀ j, a + 1 ≤ j → j < b → lessP cf d[j]! d[a]! = lt d[j]! d[a]!) :
    Fam Tryz.prog 171 [.one (.ref 0), .one (.val (.int .i64 ((a : Int)))), .one (.val (.int .i64 (((a + 1 : Nat) : Int)))), .one (.val (.int .i64 ((b : Int)))), .one (.clo g [])] 65 3 d.size (ga encTP d.toList) nx O (fun r => ∃ d', PermIn a b d d' ∧ SortedIn lt a b d' ∧ r = ga encTP d'.toList) := by
  refine Fam.mk hT ?_
  refine V.NCall.inl (f := 171) V.Tok V.mixed Tryz.func171 rfl Tryz.ntmps171 (by kernel_rfl) rfl ?_
  repeat' ((conv => whnf); first | refine V.NCond.mk ?_ | refine V.NPick.l ?_ | refine V.NIf.not_ ?_ | refine V.NIf.dec_ ?_ | refine V.a4 ?_ | refine V.a5 ?_ | refine V.NIf.mk (fun _ => ?_) (fun _ => ?_) | refine V.a7 ?_ | refine V.a8 ?_ | refine V.a9 ?_ | refine V.NBoth.mk ?_ ?_ | refine V.b1 ?_ | refine V.b2 ?_ | refine V.NTF.dec ?_ | refine V.b3 ?_ | refine V.b4 ?_ | (refine V.NDraw.any (by kernel_rfl) ?_) | fail)
  all_goals (conv => whnf)
  refine NLoop.fam hT (fun (s : Nat × Nat) => [(10, .one (.val (.int .i64 s.1))), (11, .one (.val (.int .i64 s.2)))]) [(0, .one (.ref 0)), (1, .one (.val (.int .i64 a))), (2, .one (.val (.int .i64 ((a + 1 : Nat) : Int)))), (3, .one (.val (.int .i64 b))), (4, .one (.clo g []))] 65 3 d.size (fun s => ga encTP d.toList) (fun s => s.2 - s.1) (fun s => a + 1 ≤ s.1 ∧ s.1 ≤ s.2 ∧ s.2 ≤ b ∧ (s.1 = a + 1 ∨ lt d[s.1 - 1]! d[a]! = true) ∧ (s.2 = b ∨ lt d[s.2]! d[a]! = false)) (a + 1, b) ⟨Nat.le_refl _, by dsimp only; omega, Nat.le_refl _, .inl rfl, .inl rfl⟩ [(0, _)] rfl rfl rfl (fun k hk => rfl) V.S_ (fun _ => rfl) rfl ?_
  rintro ⟨i, j⟩ ⟨hi, hij, hj, C1, C2⟩
  dsimp only at hi hij hj C1 C2 ⊢
  by_cases hlt : i < j
  · obtain ⟨h, eh⟩ : ∃ h, h = (i + j) / 2 := ⟨_, rfl⟩
    have h5 : i ≤ h ∧ h < j := by omega
    have e1 := arr_getP (d := d) (k := h)
    have e2 := arr_getP (d := d) (k := a)
    have hcc := hc (d.toList.getD h default) (d.toList.getD a default)
    have ht := HT h (by omega) (by omega)
    rw [← e1, ← e2] at ht
    unfold lessP at ht
    rw [e1, e2] at ht
    rw [← e1, ← e2] at ht
    generalize cf (d.toList.getD h default) (d.toList.getD a default) = c at *
    rw [e1, e2] at ht
    repeat' ((conv => whnf); first | refine V.NCond.mk ?_ | refine V.NPick.l ?_ | refine V.NIf.not_ ?_ | refine V.NIf.dec_ ?_ | refine V.a4 ?_ | refine V.a5 ?_ | refine V.NIf.mk (fun _ => ?_) (fun _ => ?_) | refine V.a7 ?_ | refine V.a8 ?_ | refine V.a9 ?_ | refine V.NBoth.mk ?_ ?_ | refine V.b1 ?_ | refine V.b2 ?_ | refine V.NTF.dec ?_ | refine V.b3 ?_ | refine V.b4 ?_ | (refine NShr.mid ?_; rw [← eh]) | (refine NIdx.mk ⟨h, by omega, by omega, ?_⟩) | (refine NIdx.mk ⟨a, by omega, by omega, ?_⟩) | (first | refine V.Fn.k0 (hcc) rfl ?_ | refine V.Fn.q0 (hcc) rfl ?_ | refine V.Fn.a0 (hcc) rfl ?_) | (refine V.NDraw.any (by kernel_rfl) ?_) | fail)
    all_goals (conv => whnf)
    · have hl : c < 0 := by assumption
      exact FBack.at_ hT (h + 1, j) [(0, _)] ⟨by dsimp only; omega, by dsimp only; omega, hj, .inr (by dsimp only; rw [Nat.add_sub_cancel, ← ht]; exact decide_eq_true hl), C2⟩ (by dsimp only; omega) V.S_ rfl rfl rfl (fun k hk => rfl)
    · have hl : ¬ c < 0 := by assumption
      exact FBack.at_ hT (i, h) [(0, _)] ⟨hi, by dsimp only; omega, by dsimp only; omega, C1, .inr (by dsimp only; rw [← ht]; exact decide_eq_false hl)⟩ (by dsimp only; omega) V.S_ rfl rfl rfl (fun k hk => rfl)
  · obtain rfl : i = j := by omega
    repeat' ((conv => whnf); first | refine V.NCond.mk ?_ | refine V.NPick.l ?_ | refine V.NIf.not_ ?_ | refine V.NIf.dec_ ?_ | refine V.a4 ?_ | refine V.a5 ?_ | refine V.NIf.mk (fun _ => ?_) (fun _ => ?_) | refine V.a7 ?_ | refine V.a8 ?_ | refine V.a9 ?_ | refine V.NBoth.mk ?_ ?_ | refine V.b1 ?_ | refine V.b2 ?_ | refine V.NTF.dec ?_ | refine V.b3 ?_ | refine V.b4 ?_ | (refine V.NDraw.any (by kernel_rfl) ?_) | fail)
    all_goals (conv => whnf)
    refine NLoop.fam hT (fun (s : Nat × Array PtT) => [(13, .one (.val (.int .i64 s.1)))]) [(0, .one (.ref 0)), (10, .one (.val (.int .i64 i)))] 65 3 d.size (fun s => ga encTP s.2.toList) (fun s => i - s.1) (fun s => a ≤ s.1 ∧ s.1 + 1 ≤ i ∧ St.Rot a (a + 1) (s.1 + 1) d s.2) (a, d) ⟨Nat.le_refl _, hi, St.Rot.refl_r⟩ [(0, _)] rfl rfl rfl (fun k hk => rfl) V.S_ (fun _ => rfl) rfl ?_
    rintro ⟨k, d1⟩ ⟨hk, hki, hR⟩
    dsimp only at hk hki hR ⊢
    have sz := hR.1
    by_cases hlt : k + 1 < i
    · have e1 := arr_getP (d := d1) (k := k)
      have e2 := arr_getP (d := d1) (k := k + 1)
      have e3 := swp_listP d1 k (k + 1)
      rw [← e1, ← e2] at e3
      have up := hR.up hk (by omega)
      repeat' ((conv => whnf); first | refine V.NCond.mk ?_ | refine V.NPick.l ?_ | refine V.NIf.not_ ?_ | refine V.NIf.dec_ ?_ | refine V.a4 ?_ | refine V.a5 ?_ | refine V.NIf.mk (fun _ => ?_) (fun _ => ?_) | refine V.a7 ?_ | refine V.a8 ?_ | refine V.a9 ?_ | refine V.NBoth.mk ?_ ?_ | refine V.b1 ?_ | refine V.b2 ?_ | refine V.NTF.dec ?_ | refine V.b3 ?_ | refine V.b4 ?_ | (refine NIdx.mk ⟨k, by omega, by omega, ?_⟩) | (refine NIdx.mk ⟨k + 1, by omega, by omega, ?_⟩) | (refine NPut.is_ (en := encTP) (l := d1.toList) (d1.toList.getD (k + 1) default) (d1.toList.set k (d1.toList.getD (k + 1) default)) rfl (by simp [sz]) rfl ?_) | (refine NPut.is_ (en := encTP) (l := d1.toList.set k (d1.toList.getD (k + 1) default)) (d1.toList.getD k default) (swp d1 k (k + 1)).toList e3.symm (by simp [sz]) rfl ?_) | (refine V.NDraw.any (by kernel_rfl) ?_) | fail)
      all_goals (conv => whnf)
      exact FBack.at_ hT (k + 1, swp d1 k (k + 1)) [(0, _), (0, _), (0, _)] ⟨by dsimp only; omega, by dsimp only; omega, up⟩ (by dsimp only; omega) V.S_ rfl rfl rfl (fun k hk => rfl)
    · obtain rfl : k + 1 = i := by omega
      obtain ⟨P, T⟩ := St.caseA S hR hi hj h2 H2 C1 C2
      repeat' ((conv => whnf); first | refine V.NCond.mk ?_ | refine V.NPick.l ?_ | refine V.NIf.not_ ?_ | refine V.NIf.dec_ ?_ | refine V.a4 ?_ | refine V.a5 ?_ | refine V.NIf.mk (fun _ => ?_) (fun _ => ?_) | refine V.a7 ?_ | refine V.a8 ?_ | refine V.a9 ?_ | refine V.NBoth.mk ?_ ?_ | refine V.b1 ?_ | refine V.b2 ?_ | refine V.NTF.dec ?_ | refine V.b3 ?_ | refine V.b4 ?_ | (refine V.NDraw.any (by kernel_rfl) ?_) | fail)
      all_goals (conv => whnf)
      exact ⟨rfl, rfl, [(0, _)], _, rfl, rfl, rfl, d1, P, T, rfl⟩
theorem v_symBP (nx : Nat) (O : Obs) (hT : Tail (nx + 1) O) (g : FuncId) (cf : PtT → PtT → Int) (hc : CmpP g cf) (lt : PtT → PtT → Bool) (S : SWO lt) (d : Array PtT) (a m : Nat) (h1 : a + 1 < m) (h2 : m + 1 ≤ d.size) (h3 : d.size ≤ 4611686018427387903) (H1 : SortedIn lt a m d)
    (HT : ∀ i, a ≤ i → i < m → lessP cf d[m]! d[i]! = lt d[m]! d[i]!) :
    Fam Tryz.prog 171 [.one (.ref 0), .one (.val (.int .i64 ((a : Int)))), .one (.val (.int .i64 ((m : Int)))), .one (.val (.int .i64 (((m + 1 : Nat) : Int)))), .one (.clo g [])] 65 3 d.size (ga encTP d.toList) nx O (fun r => ∃ d', PermIn a (m + 1) d d' ∧ SortedIn lt a (m + 1) d' ∧ r = ga encTP d'.toList) := by
  refine Fam.mk hT ?_
  refine V.NCall.inl (f := 171) V.Tok V.mixed Tryz.func171 rfl Tryz.ntmps171 (by kernel_rfl) rfl ?_
  repeat' ((conv => whnf); first | refine V.NCond.mk ?_ | refine V.NPick.l ?_ | refine V.NIf.not_ ?_ | refine V.NIf.dec_ ?_ | refine V.a4 ?_ | refine V.a5 ?_ | refine V.NIf.mk (fun _ => ?_) (fun _ => ?_) | refine V.a7 ?_ | refine V.a8 ?_ | refine V.a9 ?_ | refine V.NBoth.mk ?_ ?_ | refine V.b1 ?_ | refine V.b2 ?_ | refine V.NTF.dec ?_ | refine V.b3 ?_ | refine V.b4 ?_ | (refine V.NDraw.any (by kernel_rfl) ?_) | fail)
  all_goals (conv => whnf)
  refine NLoop.fam hT (fun (s : Nat × Nat) => [(14, .one (.val (.int .i64 s.1))), (15, .one (.val (.int .i64 s.2)))]) [(0, .one (.ref 0)), (1, .one (.val (.int .i64 a))), (2, .one (.val (.int .i64 m))), (3, .one (.val (.int .i64 ((m + 1 : Nat) : Int)))), (4, .one (.clo g []))] 65 3 d.size (fun s => ga encTP d.toList) (fun s => s.2 - s.1) (fun s => a ≤ s.1 ∧ s.1 ≤ s.2 ∧ s.2 ≤ m ∧ (s.1 = a ∨ lt d[m]! d[s.1 - 1]! = false) ∧ (s.2 = m ∨ lt d[m]! d[s.2]! = true)) (a, m) ⟨Nat.le_refl _, by dsimp only; omega, Nat.le_refl _, .inl rfl, .inl rfl⟩ [(0, _)] rfl rfl rfl (fun k hk => rfl) V.S_ (fun _ => rfl) rfl ?_
  rintro ⟨i, j⟩ ⟨hi, hij, hj, C1, C2⟩
  dsimp only at hi hij hj C1 C2 ⊢
  by_cases hlt : i < j
  · obtain ⟨h, eh⟩ : ∃ h, h = (i + j) / 2 := ⟨_, rfl⟩
    have h5 : i ≤ h ∧ h < j := by omega
    have e1 := arr_getP (d := d) (k := m)
    have e2 := arr_getP (d := d) (k := h)
    have hcc := hc (d.toList.getD m default) (d.toList.getD h default)
    have ht := HT h (by omega) (by omega)
    rw [← e1, ← e2] at ht
    unfold lessP at ht
    generalize cf (d.toList.getD m default) (d.toList.getD h default) = c at *
    rw [e1, e2] at ht
    repeat' ((conv => whnf); first | refine V.NCond.mk ?_ | refine V.NPick.l ?_ | refine V.NIf.not_ ?_ | refine V.NIf.dec_ ?_ | refine V.a4 ?_ | refine V.a5 ?_ | refine V.NIf.mk (fun _ => ?_) (fun _ => ?_) | refine V.a7 ?_ | refine V.a8 ?_ | refine V.a9 ?_ | refine V.NBoth.mk ?_ ?_ | refine V.b1 ?_ | refine V.b2 ?_ | refine V.NTF.dec ?_ | refine V.b3 ?_ | refine V.b4 ?_ | (refine NShr.mid ?_; rw [← eh]) | (refine NIdx.mk ⟨m, by omega, by omega, ?_⟩) | (refine NIdx.mk ⟨h, by omega, by omega, ?_⟩) | (first | refine V.Fn.k0 (hcc) rfl ?_ | refine V.Fn.q0 (hcc) rfl ?_ | refine V.Fn.a0 (hcc) rfl ?_) | (refine V.NDraw.any (by kernel_rfl) ?_) | fail)
    all_goals (conv => whnf)
    · have hl : c < 0 := by assumption
      exact FBack.at_ hT (i, h) [(0, _)] ⟨hi, by dsimp only; omega, by dsimp only; omega, C1, .inr (by dsimp only; rw [← ht]; exact decide_eq_true hl)⟩ (by dsimp only; omega) V.S_ rfl rfl rfl (fun k hk => rfl)
    · have hl : ¬ c < 0 := by assumption
      exact FBack.at_ hT (h + 1, j) [(0, _)] ⟨by dsimp only; omega, by dsimp only; omega, hj, .inr (by dsimp only; rw [Nat.add_sub_cancel, ← ht]; exact decide_eq_false hl), C2⟩ (by dsimp only; omega) V.S_ rfl rfl rfl (fun k hk => rfl)
  · obtain rfl : i = j := by omega
    repeat' ((conv => whnf); first | refine V.NCond.mk ?_ | refine V.NPick.l ?_ | refine V.NIf.not_ ?_ | refine V.NIf.dec_ ?_ | refine V.a4 ?_ | refine V.a5 ?_ | refine V.NIf.mk (fun _ => ?_) (fun _ => ?_) | refine V.a7 ?_ | refine V.a8 ?_ | refine V.a9 ?_ | refine V.NBoth.mk ?_ ?_ | refine V.b1 ?_ | refine V.b2 ?_ | refine V.NTF.dec ?_ | refine V.b3 ?_ | refine V.b4 ?_ | (refine V.NDraw.any (by kernel_rfl) ?_) | fail)
    all_goals (conv => whnf)
    refine NLoop.fam hT (fun (s : Nat × Array PtT) => [(17, .one (.val (.int .i64 s.1)))]) [(0, .one (.ref 0)), (14, .one (.val (.int .i64 i)))] 65 3 d.size (fun s => ga encTP s.2.toList) (fun s => s.1) (fun s => i ≤ s.1 ∧ s.1 ≤ m ∧ St.Rot s.1 m (m + 1) d s.2) (m, d) ⟨hj, Nat.le_refl _, St.Rot.refl_l⟩ [(0, _)] rfl rfl rfl (fun k hk => rfl) V.S_ (fun _ => rfl) rfl ?_
    rintro ⟨k, d1⟩ ⟨hk, hki, hR⟩
    dsimp only at hk hki hR ⊢
    have sz := hR.1
    by_cases hlt : i < k
    · obtain ⟨q, rfl⟩ : ∃ q, k = q + 1 := ⟨k - 1, by omega⟩
      have e1 := arr_getP (d := d1) (k := q + 1)
      have e2 := arr_getP (d := d1) (k := q)
      have e3 := swp_listP d1 (q + 1) q
      rw [← e1, ← e2] at e3
      have dn := hR.down (i := i) (by omega) (by omega)
      repeat' ((conv => whnf); first | refine V.NCond.mk ?_ | refine V.NPick.l ?_ | refine V.NIf.not_ ?_ | refine V.NIf.dec_ ?_ | refine V.a4 ?_ | refine V.a5 ?_ | refine V.NIf.mk (fun _ => ?_) (fun _ => ?_) | refine V.a7 ?_ | refine V.a8 ?_ | refine V.a9 ?_ | refine V.NBoth.mk ?_ ?_ | refine V.b1 ?_ | refine V.b2 ?_ | refine V.NTF.dec ?_ | refine V.b3 ?_ | refine V.b4 ?_ | (refine NIdx.mk ⟨q + 1, by omega, by omega, ?_⟩) | (refine NIdx.mk ⟨q, by omega, by omega, ?_⟩) | (refine NPut.is_ (en := encTP) (l := d1.toList) (d1.toList.getD q default) (d1.toList.set (q + 1) (d1.toList.getD q default)) rfl (by simp [sz]) rfl ?_) | (refine NPut.is_ (en := encTP) (l := d1.toList.set (q + 1) (d1.toList.getD q default)) (d1.toList.getD (q + 1) default) (swp d1 (q + 1) q).toList e3.symm (by simp [sz]) rfl ?_) | (refine V.NDraw.any (by kernel_rfl) ?_) | fail)
      all_goals (conv => whnf)
      exact FBack.at_ hT (q, swp d1 (q + 1) q) [(0, _), (0, _), (0, _)] ⟨by dsimp only; omega, by dsimp only; omega, dn⟩ (by dsimp only; omega) ⟨congrArg (fun z : Int => SV.one (At.val (Value.int .i64 z))) (show ((q + 1 : Nat) : Int) - 1 = (q : Int) by omega), rfl, rfl, trivial⟩ rfl rfl rfl (fun k hk => rfl)
    · obtain rfl : k = i := by omega
      obtain ⟨P, T⟩ := St.caseB S hR hi hj h2 H1 C1 C2
      repeat' ((conv => whnf); first | refine V.NCond.mk ?_ | refine V.NPick.l ?_ | refine V.NIf.not_ ?_ | refine V.NIf.dec_ ?_ | refine V.a4 ?_ | refine V.a5 ?_ | refine V.NIf.mk (fun _ => ?_) (fun _ => ?_) | refine V.a7 ?_ | refine V.a8 ?_ | refine V.a9 ?_ | refine V.NBoth.mk ?_ ?_ | refine V.b1 ?_ | refine V.b2 ?_ | refine V.NTF.dec ?_ | refine V.b3 ?_ | refine V.b4 ?_ | (refine V.NDraw.any (by kernel_rfl) ?_) | fail)
      all_goals (conv => whnf)
      exact ⟨rfl, rfl, [(0, _)], _, rfl, rfl, rfl, d1, P, T, rfl⟩
end Go.Proofs.YtpanlcnoopmchaaGreat

namespace Go.Proofs.YtpanlcnoopmchaaGreat
open Go Go.Sort Go.RowKit V
set_option maxHeartbeats 4000000
theorem v_symC1P (nx : Nat) (O : Obs) (hT : Tail (nx + 1) O) (g : FuncId) (cf : PtT → PtT → Int) (hc : CmpP g cf) (lt : PtT → PtT → Bool) (S : SWO lt) (d : Array PtT) (a m b : Nat) (h0 : a + 1 < m) (h1 : m + 1 < b) (h2 : b ≤ d.size) (h3 : d.size ≤ 2305843009213693951) (H1 : SortedIn lt a m d) (H2 : SortedIn lt m b d)
    (HT : ∀ i j, a ≤ i → i < m → m ≤ j → j < b → lessP cf d[j]! d[i]! = lt d[j]! d[i]!) (hm : (a + b) / 2 < m)
    (ih : ∀ (e : Array PtT) (x y z : Nat), z - x < b - a → a ≤ x → x < y → y < z → z ≤ b → e.size = d.size → SortedIn lt x y e → SortedIn lt y z e → (∀ i j, x ≤ i → i < y → y ≤ j → j < z → lessP cf e[j]! e[i]! = lt e[j]! e[i]!) →
      Fam Tryz.prog 171 [.one (.ref 0), .one (.val (.int .i64 ((x : Int)))), .one (.val (.int .i64 ((y : Int)))), .one (.val (.int .i64 ((z : Int)))), .one (.clo g [])] 65 3 d.size (ga encTP e.toList) nx O (fun r => ∃ d', PermIn x z e d' ∧ SortedIn lt x z d' ∧ r = ga encTP d'.toList)) :
    Fam Tryz.prog 171 [.one (.ref 0), .one (.val (.int .i64 ((a : Int)))), .one (.val (.int .i64 ((m : Int)))), .one (.val (.int .i64 ((b : Int)))), .one (.clo g [])] 65 3 d.size (ga encTP d.toList) nx O (fun r => ∃ d', PermIn a b d d' ∧ SortedIn lt a b d' ∧ r = ga encTP d'.toList) := by
  refine Fam.mk hT ?_
  refine V.NCall.inl (f := 171) V.Tok V.mixed Tryz.func171 rfl Tryz.ntmps171 (by kernel_rfl) rfl ?_
  obtain ⟨mid, em⟩ : ∃ mid, mid = (a + b) / 2 := ⟨_, rfl⟩
  have bm : a < mid ∧ mid < b := by omega
  have bm2 : 2 * mid ≤ a + b ∧ a + b ≤ 2 * mid + 1 := by omega
  repeat' ((conv => whnf); first | refine V.NCond.mk ?_ | refine V.NPick.l ?_ | refine V.NIf.not_ ?_ | refine V.NIf.dec_ ?_ | refine V.a4 ?_ | refine V.a5 ?_ | refine V.NIf.mk (fun _ => ?_) (fun _ => ?_) | refine V.a7 ?_ | refine V.a8 ?_ | refine V.a9 ?_ | refine V.NBoth.mk ?_ ?_ | refine V.b1 ?_ | refine V.b2 ?_ | refine V.NTF.dec ?_ | refine V.b3 ?_ | refine V.b4 ?_ | (refine NShr.mid ?_; rw [← em]) | (refine V.NDraw.any (by kernel_rfl) ?_) | fail)
  all_goals (conv => whnf)
  refine NLoop.fam hT (fun (s : Nat × Nat) => [(20, .one (.val (.int .i64 s.1))), (21, .one (.val (.int .i64 s.2)))]) [(0, .one (.ref 0)), (1, .one (.val (.int .i64 a))), (2, .one (.val (.int .i64 m))), (3, .one (.val (.int .i64 b))), (4, .one (.clo g [])), (18, .one (.val (.int .i64 mid))), (19, .one (.val (.int .i64 ((mid : Int) + m)))), (22, .one (.val (.int .i64 ((mid : Int) + m - 1))))] 65 3 d.size (fun s => ga encTP d.toList) (fun s => s.2 - s.1) (fun s => (mid + m - b) ≤ s.1 ∧ s.1 ≤ s.2 ∧ s.2 ≤ mid ∧ (s.1 = (mid + m - b) ∨ lt d[mid + m - s.1]! d[s.1 - 1]! = false) ∧ (s.2 = mid ∨ lt d[mid + m - 1 - s.2]! d[s.2]! = true)) ((mid + m - b), mid) ⟨Nat.le_refl _, by dsimp only; omega, Nat.le_refl _, .inl rfl, .inl rfl⟩ [(0, _)] rfl rfl rfl (fun k hk => rfl) ⟨congrArg (fun z : Int => SV.one (At.val (Value.int .i64 z))) (show (mid : Int) + m - b = ((mid + m - b : Nat) : Int) by omega), rfl, rfl, rfl, rfl, rfl, rfl, rfl, rfl, rfl, trivial⟩ (fun _ => rfl) rfl ?_
  rintro ⟨i, j⟩ ⟨hi, hij, hj, C1, C2⟩
  dsimp only at hi hij hj C1 C2 ⊢
  by_cases hlt : i < j
  · obtain ⟨h, eh⟩ : ∃ h, h = (i + j) / 2 := ⟨_, rfl⟩
    have h5 : i ≤ h ∧ h < j := by omega
    obtain ⟨k, ek⟩ : ∃ k, k = mid + m - 1 - h := ⟨_, rfl⟩
    have h6 : m ≤ k ∧ k < b := by omega
    have h7 : a ≤ h ∧ h < m := by omega
    have e1 := arr_getP (d := d) (k := k)
    have e2 := arr_getP (d := d) (k := h)
    have hcc := hc (d.toList.getD k default) (d.toList.getD h default)
    have ht := HT h k h7.1 h7.2 h6.1 h6.2
    rw [← e1, ← e2] at ht
    unfold lessP at ht
    generalize cf (d.toList.getD k default) (d.toList.getD h default) = c at *
    rw [e1, e2] at ht
    repeat' ((conv => whnf); first | refine V.NCond.mk ?_ | refine V.NPick.l ?_ | refine V.NIf.not_ ?_ | refine V.NIf.dec_ ?_ | refine V.a4 ?_ | refine V.a5 ?_ | refine V.NIf.mk (fun _ => ?_) (fun _ => ?_) | refine V.a7 ?_ | refine V.a8 ?_ | refine V.a9 ?_ | refine V.NBoth.mk ?_ ?_ | refine V.b1 ?_ | refine V.b2 ?_ | refine V.NTF.dec ?_ | refine V.b3 ?_ | refine V.b4 ?_ | (refine NShr.mid ?_; rw [← eh]) | (refine NIdx.mk ⟨k, by omega, by omega, ?_⟩) | (refine NIdx.mk ⟨h, by omega, by omega, ?_⟩) | (first | refine V.Fn.k0 (hcc) rfl ?_ | refine V.Fn.q0 (hcc) rfl ?_ | refine V.Fn.a0 (hcc) rfl ?_) | (refine V.NDraw.any (by kernel_rfl) ?_) | fail)
    all_goals (conv => whnf)
    · have hl : c < 0 := by assumption
      exact FBack.at_ hT (i, h) [(0, _)] ⟨hi, by dsimp only; omega, by dsimp only; omega, C1, .inr (by dsimp only; rw [← ek, ← ht]; exact decide_eq_true hl)⟩ (by dsimp only; omega) V.S_ rfl rfl rfl (fun k hk => rfl)
    · have hl : ¬ c < 0 := by assumption
      exact FBack.at_ hT (h + 1, j) [(0, _)] ⟨by dsimp only; omega, by dsimp only; omega, hj, .inr (by dsimp only; rw [Nat.add_sub_cancel, show mid + m - (h + 1) = k by omega, ← ht]; exact decide_eq_false hl), C2⟩ (by dsimp only; omega) V.S_ rfl rfl rfl (fun k hk => rfl)
  · obtain rfl : i = j := by omega
    clear hlt hij
    obtain ⟨e, ee⟩ : ∃ e, e = mid + m - i := ⟨_, rfl⟩
    have hai : a ≤ i := by omega
    have sm : i ≤ m := by omega
    have me : m ≤ e := by omega
    have eb : e ≤ b := by omega
    have ec : i + (e - m) = mid := by omega
    have ei : (mid : Int) + m - i = (e : Int) := by omega
    have D1 : a < i → e < b → lt d[e]! d[i - 1]! = false := fun q1 q2 => by
      rcases C1 with z | z
      · omega
      · rwa [← ee] at z
    have D2 : m < e → i < m → lt d[e - 1]! d[i]! = true := fun q1 q2 => by
      rcases C2 with z | z
      · omega
      · rwa [show mid + m - 1 - i = e - 1 by omega] at z
    clear C1 C2 hi hj
    have fin : ∀ d1 d2 d3 : Array PtT, St.Rot i m e d d1 → PermIn a mid d1 d2 → SortedIn lt a mid d2 → PermIn mid b d2 d3 → SortedIn lt mid b d3 → PermIn a b d d3 ∧ SortedIn lt a b d3 := fun d1 d2 d3 r P2 S2 P3 S3 => by
      have X := St.cross S r hai sm me eb H1 H2 D1 D2
      rw [ec] at X
      have hv := St.halves (lt := lt) (by omega) (by omega) (by rw [r.1]; exact h2) X P2 S2 P3 S3
      exact ⟨permIn_trans _ _ _ _ _ (permIn_mono _ _ _ _ a b hai eb h2 (r.perm sm me (by omega))) hv.1, hv.2⟩
    have parts : ∀ d1 : Array PtT, St.Rot i m e d d1 → (SortedIn lt a i d1 ∧ SortedIn lt i mid d1 ∧ SortedIn lt mid e d1 ∧ SortedIn lt e b d1) ∧ (∀ p q, a ≤ p → p < i → i ≤ q → q < mid → lessP cf d1[q]! d1[p]! = lt d1[q]! d1[p]!) ∧ (∀ p q, mid ≤ p → p < e → e ≤ q → q < b → lessP cf d1[q]! d1[p]! = lt d1[q]! d1[p]!) := fun d1 r => by
      have A := St.runs r hai sm me eb H1 H2
      have B := St.tests (p := fun x y => lessP cf x y = lt x y) r hai sm me eb HT
      rw [ec] at A B
      exact ⟨A, B⟩
    clear D1 D2
    by_cases q1 : i < m ∧ m < e
    · have c1 := v_rotP nx O hT g d i m e sm me (by omega) q1.1 q1.2 (by omega)
      rw [← ei] at c1
      by_cases q2 : a < i ∧ i < mid
      · by_cases q3 : mid < e ∧ e < b
        · first
            | (exfalso; omega)
            | (repeat' ((conv => whnf); first | (refine V.NIf.yes ?_ ?_; · (decide; done)) | (refine V.NIf.no ?_ ?_; · (decide; done)) | refine V.NCond.mk ?_ | refine V.NPick.l ?_ | refine V.NIf.not_ ?_ | refine V.NIf.dec_ ?_ | refine V.a4 ?_ | refine V.a5 ?_ | refine V.NIf.mk (fun _ => ?_) (fun _ => ?_) | refine V.a7 ?_ | refine V.a8 ?_ | refine V.a9 ?_ | refine V.NBoth.mk ?_ ?_ | refine V.b1 ?_ | refine V.b2 ?_ | refine V.NTF.dec ?_ | refine V.b3 ?_ | refine V.b4 ?_ | (refine Fam.use c1 hT [(0, _)] rfl rfl rfl (fun k hk => rfl) ?_; rintro g1 ⟨d1, r0, rfl⟩; obtain ⟨⟨A1, A2, A3, A4⟩, B1, B2⟩ := parts d1 r0; have z1 : d1.size = d.size := r0.1) | (have c2 := ih d1 a i mid (by omega) (Nat.le_refl _) q2.1 q2.2 (by omega) z1 A1 A2 B1; refine Fam.use c2 hT [(0, _)] rfl rfl rfl (fun k hk => rfl) ?_; rintro g2 ⟨d2, P2, S2, rfl⟩; have A3' := St.sorted_perm A3 P2 (.inr (Nat.le_refl _)); have A4' := St.sorted_perm A4 P2 (.inr (by omega)); have z2 : d2.size = d.size := P2.1.trans z1; have B2' : ∀ p q, mid ≤ p → p < e → e ≤ q → q < b → lessP cf d2[q]! d2[p]! = lt d2[q]! d2[p]! := fun p q h1 h2 h3 h4 => (by rw [P2.2.1 p (by omega), P2.2.1 q (by omega)]; exact B2 p q h1 h2 h3 h4)) | (have c3 := ih d2 mid e b (by omega) (by omega) q3.1 q3.2 (Nat.le_refl _) z2 A3' A4' B2'; rw [← ei] at c3; refine Fam.use c3 hT [(0, _)] rfl rfl rfl (fun k hk => rfl) ?_; rintro g3 ⟨d3, P3, S3, rfl⟩) | (refine V.NDraw.any (by kernel_rfl) ?_) | fail)
               all_goals (conv => whnf)
               have F := fin d1 d2 d3 r0 P2 S2 P3 S3
               exact ⟨rfl, rfl, [(0, _)], _, rfl, rfl, rfl, d3, F.1, F.2, rfl⟩)
        · first
            | (exfalso; omega)
            | (repeat' ((conv => whnf); first | (refine V.NIf.yes ?_ ?_; · (decide; done)) | (refine V.NIf.no ?_ ?_; · (decide; done)) | refine V.NCond.mk ?_ | refine V.NPick.l ?_ | refine V.NIf.not_ ?_ | refine V.NIf.dec_ ?_ | refine V.a4 ?_ | refine V.a5 ?_ | refine V.NIf.mk (fun _ => ?_) (fun _ => ?_) | refine V.a7 ?_ | refine V.a8 ?_ | refine V.a9 ?_ | refine V.NBoth.mk ?_ ?_ | refine V.b1 ?_ | refine V.b2 ?_ | refine V.NTF.dec ?_ | refine V.b3 ?_ | refine V.b4 ?_ | (refine Fam.use c1 hT [(0, _)] rfl rfl rfl (fun k hk => rfl) ?_; rintro g1 ⟨d1, r0, rfl⟩; obtain ⟨⟨A1, A2, A3, A4⟩, B1, B2⟩ := parts d1 r0; have z1 : d1.size = d.size := r0.1) | (have c2 := ih d1 a i mid (by omega) (Nat.le_refl _) q2.1 q2.2 (by omega) z1 A1 A2 B1; refine Fam.use c2 hT [(0, _)] rfl rfl rfl (fun k hk => rfl) ?_; rintro g2 ⟨d2, P2, S2, rfl⟩; have A3' := St.sorted_perm A3 P2 (.inr (Nat.le_refl _)); have A4' := St.sorted_perm A4 P2 (.inr (by omega)); have z2 : d2.size = d.size := P2.1.trans z1; have B2' : ∀ p q, mid ≤ p → p < e → e ≤ q → q < b → lessP cf d2[q]! d2[p]! = lt d2[q]! d2[p]! := fun p q h1 h2 h3 h4 => (by rw [P2.2.1 p (by omega), P2.2.1 q (by omega)]; exact B2 p q h1 h2 h3 h4)) | (refine V.NDraw.any (by kernel_rfl) ?_) | fail)
               all_goals (conv => whnf)
               have F := fin d1 d2 d2 r0 P2 S2 (permIn_refl _ _ _) (St.sorted_one A3' A4' (by omega) eb q3)
               exact ⟨rfl, rfl, [(0, _)], _, rfl, rfl, rfl, d2, F.1, F.2, rfl⟩)
      · by_cases q3 : mid < e ∧ e < b
        · first
            | (exfalso; omega)
            | (repeat' ((conv => whnf); first | (refine V.NIf.yes ?_ ?_; · (decide; done)) | (refine V.NIf.no ?_ ?_; · (decide; done)) | refine V.NCond.mk ?_ | refine V.NPick.l ?_ | refine V.NIf.not_ ?_ | refine V.NIf.dec_ ?_ | refine V.a4 ?_ | refine V.a5 ?_ | refine V.NIf.mk (fun _ => ?_) (fun _ => ?_) | refine V.a7 ?_ | refine V.a8 ?_ | refine V.a9 ?_ | refine V.NBoth.mk ?_ ?_ | refine V.b1 ?_ | refine V.b2 ?_ | refine V.NTF.dec ?_ | refine V.b3 ?_ | refine V.b4 ?_ | (refine Fam.use c1 hT [(0, _)] rfl rfl rfl (fun k hk => rfl) ?_; rintro g1 ⟨d1, r0, rfl⟩; obtain ⟨⟨A1, A2, A3, A4⟩, B1, B2⟩ := parts d1 r0; have z1 : d1.size = d.size := r0.1) | (have c3 := ih d1 mid e b (by omega) (by omega) q3.1 q3.2 (Nat.le_refl _) z1 A3 A4 B2; rw [← ei] at c3; refine Fam.use c3 hT [(0, _)] rfl rfl rfl (fun k hk => rfl) ?_; rintro g3 ⟨d3, P3, S3, rfl⟩) | (refine V.NDraw.any (by kernel_rfl) ?_) | fail)
               all_goals (conv => whnf)
               have F := fin d1 d1 d3 r0 (permIn_refl _ _ _) (St.sorted_one A1 A2 hai (by omega) q2) P3 S3
               exact ⟨rfl, rfl, [(0, _)], _, rfl, rfl, rfl, d3, F.1, F.2, rfl⟩)
        · first
            | (exfalso; omega)
            | (repeat' ((conv => whnf); first | (refine V.NIf.yes ?_ ?_; · (decide; done)) | (refine V.NIf.no ?_ ?_; · (decide; done)) | refine V.NCond.mk ?_ | refine V.NPick.l ?_ | refine V.NIf.not_ ?_ | refine V.NIf.dec_ ?_ | refine V.a4 ?_ | refine V.a5 ?_ | refine V.NIf.mk (fun _ => ?_) (fun _ => ?_) | refine V.a7 ?_ | refine V.a8 ?_ | refine V.a9 ?_ | refine V.NBoth.mk ?_ ?_ | refine V.b1 ?_ | refine V.b2 ?_ | refine V.NTF.dec ?_ | refine V.b3 ?_ | refine V.b4 ?_ | (refine Fam.use c1 hT [(0, _)] rfl rfl rfl (fun k hk => rfl) ?_; rintro g1 ⟨d1, r0, rfl⟩; obtain ⟨⟨A1, A2, A3, A4⟩, B1, B2⟩ := parts d1 r0; have z1 : d1.size = d.size := r0.1) | (refine V.NDraw.any (by kernel_rfl) ?_) | fail)
               all_goals (conv => whnf)
               have F := fin d1 d1 d1 r0 (permIn_refl _ _ _) (St.sorted_one A1 A2 hai (by omega) q2) (permIn_refl _ _ _) (St.sorted_one A3 A4 (by omega) eb q3)
               exact ⟨rfl, rfl, [(0, _)], _, rfl, rfl, rfl, d1, F.1, F.2, rfl⟩)
    · have r0 : St.Rot i m e d d := by
        by_cases z : i = m
        · subst z; exact St.Rot.refl_l
        · obtain rfl : m = e := by omega
          exact St.Rot.refl_r
      by_cases q2 : a < i ∧ i < mid
      · by_cases q3 : mid < e ∧ e < b
        · first
            | (exfalso; omega)
            | (obtain ⟨⟨A1, A2, A3, A4⟩, B1, B2⟩ := parts d r0
               have z1 : d.size = d.size := rfl
               repeat' ((conv => whnf); first | (refine V.NIf.yes ?_ ?_; · (decide; done)) | (refine V.NIf.no ?_ ?_; · (decide; done)) | refine V.NCond.mk ?_ | refine V.NPick.l ?_ | refine V.NIf.not_ ?_ | refine V.NIf.dec_ ?_ | refine V.a4 ?_ | refine V.a5 ?_ | refine V.NIf.mk (fun _ => ?_) (fun _ => ?_) | refine V.a7 ?_ | refine V.a8 ?_ | refine V.a9 ?_ | refine V.NBoth.mk ?_ ?_ | refine V.b1 ?_ | refine V.b2 ?_ | refine V.NTF.dec ?_ | refine V.b3 ?_ | refine V.b4 ?_ | (have c2 := ih d a i mid (by omega) (Nat.le_refl _) q2.1 q2.2 (by omega) z1 A1 A2 B1; refine Fam.use c2 hT [(0, _)] rfl rfl rfl (fun k hk => rfl) ?_; rintro g2 ⟨d2, P2, S2, rfl⟩; have A3' := St.sorted_perm A3 P2 (.inr (Nat.le_refl _)); have A4' := St.sorted_perm A4 P2 (.inr (by omega)); have z2 : d2.size = d.size := P2.1.trans z1; have B2' : ∀ p q, mid ≤ p → p < e → e ≤ q → q < b → lessP cf d2[q]! d2[p]! = lt d2[q]! d2[p]! := fun p q h1 h2 h3 h4 => (by rw [P2.2.1 p (by omega), P2.2.1 q (by omega)]; exact B2 p q h1 h2 h3 h4)) | (have c3 := ih d2 mid e b (by omega) (by omega) q3.1 q3.2 (Nat.le_refl _) z2 A3' A4' B2'; rw [← ei] at c3; refine Fam.use c3 hT [(0, _)] rfl rfl rfl (fun k hk => rfl) ?_; rintro g3 ⟨d3, P3, S3, rfl⟩) | (refine V.NDraw.any (by kernel_rfl) ?_) | fail)
               all_goals (conv => whnf)
               have F := fin d d2 d3 r0 P2 S2 P3 S3
               exact ⟨rfl, rfl, [(0, _)], _, rfl, rfl, rfl, d3, F.1, F.2, rfl⟩)
        · first
            | (exfalso; omega)
            | (obtain ⟨⟨A1, A2, A3, A4⟩, B1, B2⟩ := parts d r0
               have z1 : d.size = d.size := rfl
               repeat' ((conv => whnf); first | (refine V.NIf.yes ?_ ?_; · (decide; done)) | (refine V.NIf.no ?_ ?_; · (decide; done)) | refine V.NCond.mk ?_ | refine V.NPick.l ?_ | refine V.NIf.not_ ?_ | refine V.NIf.dec_ ?_ | refine V.a4 ?_ | refine V.a5 ?_ | refine V.NIf.mk (fun _ => ?_) (fun _ => ?_) | refine V.a7 ?_ | refine V.a8 ?_ | refine V.a9 ?_ | refine V.NBoth.mk ?_ ?_ | refine V.b1 ?_ | refine V.b2 ?_ | refine V.NTF.dec ?_ | refine V.b3 ?_ | refine V.b4 ?_ | (have c2 := ih d a i mid (by omega) (Nat.le_refl _) q2.1 q2.2 (by omega) z1 A1 A2 B1; refine Fam.use c2 hT [(0, _)] rfl rfl rfl (fun k hk => rfl) ?_; rintro g2 ⟨d2, P2, S2, rfl⟩; have A3' := St.sorted_perm A3 P2 (.inr (Nat.le_refl _)); have A4' := St.sorted_perm A4 P2 (.inr (by omega)); have z2 : d2.size = d.size := P2.1.trans z1; have B2' : ∀ p q, mid ≤ p → p < e → e ≤ q → q < b → lessP cf d2[q]! d2[p]! = lt d2[q]! d2[p]! := fun p q h1 h2 h3 h4 => (by rw [P2.2.1 p (by omega), P2.2.1 q (by omega)]; exact B2 p q h1 h2 h3 h4)) | (refine V.NDraw.any (by kernel_rfl) ?_) | fail)
               all_goals (conv => whnf)
               have F := fin d d2 d2 r0 P2 S2 (permIn_refl _ _ _) (St.sorted_one A3' A4' (by omega) eb q3)
               exact ⟨rfl, rfl, [(0, _)], _, rfl, rfl, rfl, d2, F.1, F.2, rfl⟩)
      · by_cases q3 : mid < e ∧ e < b
        · first
            | (exfalso; omega)
            | (obtain ⟨⟨A1, A2, A3, A4⟩, B1, B2⟩ := parts d r0
               have z1 : d.size = d.size := rfl
               repeat' ((conv => whnf); first | (refine V.NIf.yes ?_ ?_; · (decide; done)) | (refine V.NIf.no ?_ ?_; · (decide; done)) | refine V.NCond.mk ?_ | refine V.NPick.l ?_ | refine V.NIf.not_ ?_ | refine V.NIf.dec_ ?_ | refine V.a4 ?_ | refine V.a5 ?_ | refine V.NIf.mk (fun _ => ?_) (fun _ => ?_) | refine V.a7 ?_ | refine V.a8 ?_ | refine V.a9 ?_ | refine V.NBoth.mk ?_ ?_ | refine V.b1 ?_ | refine V.b2 ?_ | refine V.NTF.dec ?_ | refine V.b3 ?_ | refine V.b4 ?_ | (have c3 := ih d mid e b (by omega) (by omega) q3.1 q3.2 (Nat.le_refl _) z1 A3 A4 B2; rw [← ei] at c3; refine Fam.use c3 hT [(0, _)] rfl rfl rfl (fun k hk => rfl) ?_; rintro g3 ⟨d3, P3, S3, rfl⟩) | (refine V.NDraw.any (by kernel_rfl) ?_) | fail)
               all_goals (conv => whnf)
               have F := fin d d d3 r0 (permIn_refl _ _ _) (St.sorted_one A1 A2 hai (by omega) q2) P3 S3
               exact ⟨rfl, rfl, [(0, _)], _, rfl, rfl, rfl, d3, F.1, F.2, rfl⟩)
        · first
            | (exfalso; omega)
            | (obtain ⟨⟨A1, A2, A3, A4⟩, B1, B2⟩ := parts d r0
               have z1 : d.size = d.size := rfl
               repeat' ((conv => whnf); first | (refine V.NIf.yes ?_ ?_; · (decide; done)) | (refine V.NIf.no ?_ ?_; · (decide; done)) | refine V.NCond.mk ?_ | refine V.NPick.l ?_ | refine V.NIf.not_ ?_ | refine V.NIf.dec_ ?_ | refine V.a4 ?_ | refine V.a5 ?_ | refine V.NIf.mk (fun _ => ?_) (fun _ => ?_) | refine V.a7 ?_ | refine V.a8 ?_ | refine V.a9 ?_ | refine V.NBoth.mk ?_ ?_ | refine V.b1 ?_ | refine V.b2 ?_ | refine V.NTF.dec ?_ | refine V.b3 ?_ | refine V.b4 ?_ | (refine V.NDraw.any (by kernel_rfl) ?_) | fail)
               all_goals (conv => whnf)
               have F := fin d d d r0 (permIn_refl _ _ _) (St.sorted_one A1 A2 hai (by omega) q2) (permIn_refl _ _ _) (St.sorted_one A3 A4 (by omega) eb q3)
               exact ⟨rfl, rfl, [(0, _)], _, rfl, rfl, rfl, d, F.1, F.2, rfl⟩)
end Go.Proofs.YtpanlcnoopmchaaGreat

namespace Go.Proofs.YtpanlcnoopmchaaGreat
open Go Go.Sort Go.RowKit V
set_option maxHeartbeats 4000000
theorem v_symC0P (nx : Nat) (O : Obs) (hT : Tail (nx + 1) O) (g : FuncId) (cf : PtT → PtT → Int) (hc : CmpP g cf) (lt : PtT → PtT → Bool) (S : SWO lt) (d : Array PtT) (a m b : Nat) (h0 : a + 1 < m) (h1 : m + 1 < b) (h2 : b ≤ d.size) (h3 : d.size ≤ 2305843009213693951) (H1 : SortedIn lt a m d) (H2 : SortedIn lt m b d)
    (HT : ∀ i j, a ≤ i → i < m → m ≤ j → j < b → lessP cf d[j]! d[i]! = lt d[j]! d[i]!) (hm : m ≤ (a + b) / 2)
    (ih : ∀ (e : Array PtT) (x y z : Nat), z - x < b - a → a ≤ x → x < y → y < z → z ≤ b → e.size = d.size → SortedIn lt x y e → SortedIn lt y z e → (∀ i j, x ≤ i → i < y → y ≤ j → j < z → lessP cf e[j]! e[i]! = lt e[j]! e[i]!) →
      Fam Tryz.prog 171 [.one (.ref 0), .one (.val (.int .i64 ((x : Int)))), .one (.val (.int .i64 ((y : Int)))), .one (.val (.int .i64 ((z : Int)))), .one (.clo g [])] 65 3 d.size (ga encTP e.toList) nx O (fun r => ∃ d', PermIn x z e d' ∧ SortedIn lt x z d' ∧ r = ga encTP d'.toList)) :
    Fam Tryz.prog 171 [.one (.ref 0), .one (.val (.int .i64 ((a : Int)))), .one (.val (.int .i64 ((m : Int)))), .one (.val (.int .i64 ((b : Int)))), .one (.clo g [])] 65 3 d.size (ga encTP d.toList) nx O (fun r => ∃ d', PermIn a b d d' ∧ SortedIn lt a b d' ∧ r = ga encTP d'.toList) := by
  refine Fam.mk hT ?_
  refine V.NCall.inl (f := 171) V.Tok V.mixed Tryz.func171 rfl Tryz.ntmps171 (by kernel_rfl) rfl ?_
  obtain ⟨mid, em⟩ : ∃ mid, mid = (a + b) / 2 := ⟨_, rfl⟩
  have bm : a < mid ∧ mid < b := by omega
  have bm2 : 2 * mid ≤ a + b ∧ a + b ≤ 2 * mid + 1 := by omega
  repeat' ((conv => whnf); first | refine V.NCond.mk ?_ | refine V.NPick.l ?_ | refine V.NIf.not_ ?_ | refine V.NIf.dec_ ?_ | refine V.a4 ?_ | refine V.a5 ?_ | refine V.NIf.mk (fun _ => ?_) (fun _ => ?_) | refine V.a7 ?_ | refine V.a8 ?_ | refine V.a9 ?_ | refine V.NBoth.mk ?_ ?_ | refine V.b1 ?_ | refine V.b2 ?_ | refine V.NTF.dec ?_ | refine V.b3 ?_ | refine V.b4 ?_ | (refine NShr.mid ?_; rw [← em]) | (refine V.NDraw.any (by kernel_rfl) ?_) | fail)
  all_goals (conv => whnf)
  refine NLoop.fam hT (fun (s : Nat × Nat) => [(20, .one (.val (.int .i64 s.1))), (21, .one (.val (.int .i64 s.2)))]) [(0, .one (.ref 0)), (1, .one (.val (.int .i64 a))), (2, .one (.val (.int .i64 m))), (3, .one (.val (.int .i64 b))), (4, .one (.clo g [])), (18, .one (.val (.int .i64 mid))), (19, .one (.val (.int .i64 ((mid : Int) + m)))), (22, .one (.val (.int .i64 ((mid : Int) + m - 1))))] 65 3 d.size (fun s => ga encTP d.toList) (fun s => s.2 - s.1) (fun s => a ≤ s.1 ∧ s.1 ≤ s.2 ∧ s.2 ≤ m ∧ (s.1 = a ∨ lt d[mid + m - s.1]! d[s.1 - 1]! = false) ∧ (s.2 = m ∨ lt d[mid + m - 1 - s.2]! d[s.2]! = true)) (a, m) ⟨Nat.le_refl _, by dsimp only; omega, Nat.le_refl _, .inl rfl, .inl rfl⟩ [(0, _)] rfl rfl rfl (fun k hk => rfl) V.S_ (fun _ => rfl) rfl ?_
  rintro ⟨i, j⟩ ⟨hi, hij, hj, C1, C2⟩
  dsimp only at hi hij hj C1 C2 ⊢
  by_cases hlt : i < j
  · obtain ⟨h, eh⟩ : ∃ h, h = (i + j) / 2 := ⟨_, rfl⟩
    have h5 : i ≤ h ∧ h < j := by omega
    obtain ⟨k, ek⟩ : ∃ k, k = mid + m - 1 - h := ⟨_, rfl⟩
    have h6 : m ≤ k ∧ k < b := by omega
    have h7 : a ≤ h ∧ h < m := by omega
    have e1 := arr_getP (d := d) (k := k)
    have e2 := arr_getP (d := d) (k := h)
    have hcc := hc (d.toList.getD k default) (d.toList.getD h default)
    have ht := HT h k h7.1 h7.2 h6.1 h6.2
    rw [← e1, ← e2] at ht
    unfold lessP at ht
    generalize cf (d.toList.getD k default) (d.toList.getD h default) = c at *
    rw [e1, e2] at ht
    repeat' ((conv => whnf); first | refine V.NCond.mk ?_ | refine V.NPick.l ?_ | refine V.NIf.not_ ?_ | refine V.NIf.dec_ ?_ | refine V.a4 ?_ | refine V.a5 ?_ | refine V.NIf.mk (fun _ => ?_) (fun _ => ?_) | refine V.a7 ?_ | refine V.a8 ?_ | refine V.a9 ?_ | refine V.NBoth.mk ?_ ?_ | refine V.b1 ?_ | refine V.b2 ?_ | refine V.NTF.dec ?_ | refine V.b3 ?_ | refine V.b4 ?_ | (refine NShr.mid ?_; rw [← eh]) | (refine NIdx.mk ⟨k, by omega, by omega, ?_⟩) | (refine NIdx.mk ⟨h, by omega, by omega, ?_⟩) | (first | refine V.Fn.k0 (hcc) rfl ?_ | refine V.Fn.q0 (hcc) rfl ?_ | refine V.Fn.a0 (hcc) rfl ?_) | (refine V.NDraw.any (by kernel_rfl) ?_) | fail)
    all_goals (conv => whnf)
    · have hl : c < 0 := by assumption
      exact FBack.at_ hT (i, h) [(0, _)] ⟨hi, by dsimp only; omega, by dsimp only; omega, C1, .inr (by dsimp only; rw [← ek, ← ht]; exact decide_eq_true hl)⟩ (by dsimp only; omega) V.S_ rfl rfl rfl (fun k hk => rfl)
    · have hl : ¬ c < 0 := by assumption
      exact FBack.at_ hT (h + 1, j) [(0, _)] ⟨by dsimp only; omega, by dsimp only; omega, hj, .inr (by dsimp only; rw [Nat.add_sub_cancel, show mid + m - (h + 1) = k by omega, ← ht]; exact decide_eq_false hl), C2⟩ (by dsimp only; omega) V.S_ rfl rfl rfl (fun k hk => rfl)
  · obtain rfl : i = j := by omega
    clear hlt hij
    obtain ⟨e, ee⟩ : ∃ e, e = mid + m - i := ⟨_, rfl⟩
    have hai : a ≤ i := by omega
    have sm : i ≤ m := by omega
    have me : m ≤ e := by omega
    have eb : e ≤ b := by omega
    have ec : i + (e - m) = mid := by omega
    have ei : (mid : Int) + m - i = (e : Int) := by omega
    have D1 : a < i → e < b → lt d[e]! d[i - 1]! = false := fun q1 q2 => by
      rcases C1 with z | z
      · omega
      · rwa [← ee] at z
    have D2 : m < e → i < m → lt d[e - 1]! d[i]! = true := fun q1 q2 => by
      rcases C2 with z | z
      · omega
      · rwa [show mid + m - 1 - i = e - 1 by omega] at z
    clear C1 C2 hi hj
    have fin : ∀ d1 d2 d3 : Array PtT, St.Rot i m e d d1 → PermIn a mid d1 d2 → SortedIn lt a mid d2 → PermIn mid b d2 d3 → SortedIn lt mid b d3 → PermIn a b d d3 ∧ SortedIn lt a b d3 := fun d1 d2 d3 r P2 S2 P3 S3 => by
      have X := St.cross S r hai sm me eb H1 H2 D1 D2
      rw [ec] at X
      have hv := St.halves (lt := lt) (by omega) (by omega) (by rw [r.1]; exact h2) X P2 S2 P3 S3
      exact ⟨permIn_trans _ _ _ _ _ (permIn_mono _ _ _ _ a b hai eb h2 (r.perm sm me (by omega))) hv.1, hv.2⟩
    have parts : ∀ d1 : Array PtT, St.Rot i m e d d1 → (SortedIn lt a i d1 ∧ SortedIn lt i mid d1 ∧ SortedIn lt mid e d1 ∧ SortedIn lt e b d1) ∧ (∀ p q, a ≤ p → p < i → i ≤ q → q < mid → lessP cf d1[q]! d1[p]! = lt d1[q]! d1[p]!) ∧ (∀ p q, mid ≤ p → p < e → e ≤ q → q < b → lessP cf d1[q]! d1[p]! = lt d1[q]! d1[p]!) := fun d1 r => by
      have A := St.runs r hai sm me eb H1 H2
      have B := St.tests (p := fun x y => lessP cf x y = lt x y) r hai sm me eb HT
      rw [ec] at A B
      exact ⟨A, B⟩
    clear D1 D2
    by_cases q1 : i < m ∧ m < e
    · have c1 := v_rotP nx O hT g d i m e sm me (by omega) q1.1 q1.2 (by omega)
      rw [← ei] at c1
      by_cases q2 : a < i ∧ i < mid
      · by_cases q3 : mid < e ∧ e < b
        · first
            | (exfalso; omega)
            | (repeat' ((conv => whnf); first | (refine V.NIf.yes ?_ ?_; · (decide; done)) | (refine V.NIf.no ?_ ?_; · (decide; done)) | refine V.NCond.mk ?_ | refine V.NPick.l ?_ | refine V.NIf.not_ ?_ | refine V.NIf.dec_ ?_ | refine V.a4 ?_ | refine V.a5 ?_ | refine V.NIf.mk (fun _ => ?_) (fun _ => ?_) | refine V.a7 ?_ | refine V.a8 ?_ | refine V.a9 ?_ | refine V.NBoth.mk ?_ ?_ | refine V.b1 ?_ | refine V.b2 ?_ | refine V.NTF.dec ?_ | refine V.b3 ?_ | refine V.b4 ?_ | (refine Fam.use c1 hT [(0, _)] rfl rfl rfl (fun k hk => rfl) ?_; rintro g1 ⟨d1, r0, rfl⟩; obtain ⟨⟨A1, A2, A3, A4⟩, B1, B2⟩ := parts d1 r0; have z1 : d1.size = d.size := r0.1) | (have c2 := ih d1 a i mid (by omega) (Nat.le_refl _) q2.1 q2.2 (by omega) z1 A1 A2 B1; refine Fam.use c2 hT [(0, _)] rfl rfl rfl (fun k hk => rfl) ?_; rintro g2 ⟨d2, P2, S2, rfl⟩; have A3' := St.sorted_perm A3 P2 (.inr (Nat.le_refl _)); have A4' := St.sorted_perm A4 P2 (.inr (by omega)); have z2 : d2.size = d.size := P2.1.trans z1; have B2' : ∀ p q, mid ≤ p → p < e → e ≤ q → q < b → lessP cf d2[q]! d2[p]! = lt d2[q]! d2[p]! := fun p q h1 h2 h3 h4 => (by rw [P2.2.1 p (by omega), P2.2.1 q (by omega)]; exact B2 p q h1 h2 h3 h4)) | (have c3 := ih d2 mid e b (by omega) (by omega) q3.1 q3.2 (Nat.le_refl _) z2 A3' A4' B2'; rw [← ei] at c3; refine Fam.use c3 hT [(0, _)] rfl rfl rfl (fun k hk => rfl) ?_; rintro g3 ⟨d3, P3, S3, rfl⟩) | (refine V.NDraw.any (by kernel_rfl) ?_) | fail)
               all_goals (conv => whnf)
               have F := fin d1 d2 d3 r0 P2 S2 P3 S3
               exact ⟨rfl, rfl, [(0, _)], _, rfl, rfl, rfl, d3, F.1, F.2, rfl⟩)
        · first
            | (exfalso; omega)
            | (repeat' ((conv => whnf); first | (refine V.NIf.yes ?_ ?_; · (decide; done)) | (refine V.NIf.no ?_ ?_; · (decide; done)) | refine V.NCond.mk ?_ | refine V.NPick.l ?_ | refine V.NIf.not_ ?_ | refine V.NIf.dec_ ?_ | refine V.a4 ?_ | refine V.a5 ?_ | refine V.NIf.mk (fun _ => ?_) (fun _ => ?_) | refine V.a7 ?_ | refine V.a8 ?_ | refine V.a9 ?_ | refine V.NBoth.mk ?_ ?_ | refine V.b1 ?_ | refine V.b2 ?_ | refine V.NTF.dec ?_ | refine V.b3 ?_ | refine V.b4 ?_ | (refine Fam.use c1 hT [(0, _)] rfl rfl rfl (fun k hk => rfl) ?_; rintro g1 ⟨d1, r0, rfl⟩; obtain ⟨⟨A1, A2, A3, A4⟩, B1, B2⟩ := parts d1 r0; have z1 : d1.size = d.size := r0.1) | (have c2 := ih d1 a i mid (by omega) (Nat.le_refl _) q2.1 q2.2 (by omega) z1 A1 A2 B1; refine Fam.use c2 hT [(0, _)] rfl rfl rfl (fun k hk => rfl) ?_; rintro g2 ⟨d2, P2, S2, rfl⟩; have A3' := St.sorted_perm A3 P2 (.inr (Nat.le_refl _)); have A4' := St.sorted_perm A4 P2 (.inr (by omega)); have z2 : d2.size = d.size := P2.1.trans z1; have B2' : ∀ p q, mid ≤ p → p < e → e ≤ q → q < b → lessP cf d2[q]! d2[p]! = lt d2[q]! d2[p]! := fun p q h1 h2 h3 h4 => (by rw [P2.2.1 p (by omega), P2.2.1 q (by omega)]; exact B2 p q h1 h2 h3 h4)) | (refine V.NDraw.any (by kernel_rfl) ?_) | fail)
               all_goals (conv => whnf)
               have F := fin d1 d2 d2 r0 P2 S2 (permIn_refl _ _ _) (St.sorted_one A3' A4' (by omega) eb q3)
               exact ⟨rfl, rfl, [(0, _)], _, rfl, rfl, rfl, d2, F.1, F.2, rfl⟩)
      · by_cases q3 : mid < e ∧ e < b
        · first
            | (exfalso; omega)
            | (repeat' ((conv => whnf); first | (refine V.NIf.yes ?_ ?_; · (decide; done)) | (refine V.NIf.no ?_ ?_; · (decide; done)) | refine V.NCond.mk ?_ | refine V.NPick.l ?_ | refine V.NIf.not_ ?_ | refine V.NIf.dec_ ?_ | refine V.a4 ?_ | refine V.a5 ?_ | refine V.NIf.mk (fun _ => ?_) (fun _ => ?_) | refine V.a7 ?_ | refine V.a8 ?_ | refine V.a9 ?_ | refine V.NBoth.mk ?_ ?_ | refine V.b1 ?_ | refine V.b2 ?_ | refine V.NTF.dec ?_ | refine V.b3 ?_ | refine V.b4 ?_ | (refine Fam.use c1 hT [(0, _)] rfl rfl rfl (fun k hk => rfl) ?_; rintro g1 ⟨d1, r0, rfl⟩; obtain ⟨⟨A1, A2, A3, A4⟩, B1, B2⟩ := parts d1 r0; have z1 : d1.size = d.size := r0.1) | (have c3 := ih d1 mid e b (by omega) (by omega) q3.1 q3.2 (Nat.le_refl _) z1 A3 A4 B2; rw [← ei] at c3; refine Fam.use c3 hT [(0, _)] rfl rfl rfl (fun k hk => rfl) ?_; rintro g3 ⟨d3, P3, S3, rfl⟩) | (refine V.NDraw.any (by kernel_rfl) ?_) | fail)
               all_goals (conv => whnf)
               have F := fin d1 d1 d3 r0 (permIn_refl _ _ _) (St.sorted_one A1 A2 hai (by omega) q2) P3 S3
               exact ⟨rfl, rfl, [(0, _)], _, rfl, rfl, rfl, d3, F.1, F.2, rfl⟩)
        · first
            | (exfalso; omega)
            | (repeat' ((conv => whnf); first | (refine V.NIf.yes ?_ ?_; · (decide; done)) | (refine V.NIf.no ?_ ?_; · (decide; done)) | refine V.NCond.mk ?_ | refine V.NPick.l ?_ | refine V.NIf.not_ ?_ | refine V.NIf.dec_ ?_ | refine V.a4 ?_ | refine V.a5 ?_ | refine V.NIf.mk (fun _ => ?_) (fun _ => ?_) | refine V.a7 ?_ | refine V.a8 ?_ | refine V.a9 ?_ | refine V.NBoth.mk ?_ ?_ | refine V.b1 ?_ | refine V.b2 ?_ | refine V.NTF.dec ?_ | refine V.b3 ?_ | refine V.b4 ?_ | (refine Fam.use c1 hT [(0, _)] rfl rfl rfl (fun k hk => rfl) ?_; rintro g1 ⟨d1, r0, rfl⟩; obtain ⟨⟨A1, A2, A3, A4⟩, B1, B2⟩ := parts d1 r0; have z1 : d1.size = d.size := r0.1) | (refine V.NDraw.any (by kernel_rfl) ?_) | fail)
               all_goals (conv => whnf)
               have F := fin d1 d1 d1 r0 (permIn_refl _ _ _) (St.sorted_one A1 A2 hai (by omega) q2) (permIn_refl _ _ _) (St.sorted_one A3 A4 (by omega) eb q3)
               exact ⟨rfl, rfl, [(0, _)], _, rfl, rfl, rfl, d1, F.1, F.2, rfl⟩)
    · have r0 : St.Rot i m e d d := by
        by_cases z : i = m
        · subst z; exact St.Rot.refl_l
        · obtain rfl : m = e := by omega
          exact St.Rot.refl_r
      by_cases q2 : a < i ∧ i < mid
      · by_cases q3 : mid < e ∧ e < b
        · first
            | (exfalso; omega)
            | (obtain ⟨⟨A1, A2, A3, A4⟩, B1, B2⟩ := parts d r0
               have z1 : d.size = d.size := rfl
               repeat' ((conv => whnf); first | (refine V.NIf.yes ?_ ?_; · (decide; done)) | (refine V.NIf.no ?_ ?_; · (decide; done)) | refine V.NCond.mk ?_ | refine V.NPick.l ?_ | refine V.NIf.not_ ?_ | refine V.NIf.dec_ ?_ | refine V.a4 ?_ | refine V.a5 ?_ | refine V.NIf.mk (fun _ => ?_) (fun _ => ?_) | refine V.a7 ?_ | refine V.a8 ?_ | refine V.a9 ?_ | refine V.NBoth.mk ?_ ?_ | refine V.b1 ?_ | refine V.b2 ?_ | refine V.NTF.dec ?_ | refine V.b3 ?_ | refine V.b4 ?_ | (have c2 := ih d a i mid (by omega) (Nat.le_refl _) q2.1 q2.2 (by omega) z1 A1 A2 B1; refine Fam.use c2 hT [(0, _)] rfl rfl rfl (fun k hk => rfl) ?_; rintro g2 ⟨d2, P2, S2, rfl⟩; have A3' := St.sorted_perm A3 P2 (.inr (Nat.le_refl _)); have A4' := St.sorted_perm A4 P2 (.inr (by omega)); have z2 : d2.size = d.size := P2.1.trans z1; have B2' : ∀ p q, mid ≤ p → p < e → e ≤ q → q < b → lessP cf d2[q]! d2[p]! = lt d2[q]! d2[p]! := fun p q h1 h2 h3 h4 => (by rw [P2.2.1 p (by omega), P2.2.1 q (by omega)]; exact B2 p q h1 h2 h3 h4)) | (have c3 := ih d2 mid e b (by omega) (by omega) q3.1 q3.2 (Nat.le_refl _) z2 A3' A4' B2'; rw [← ei] at c3; refine Fam.use c3 hT [(0, _)] rfl rfl rfl (fun k hk => rfl) ?_; rintro g3 ⟨d3, P3, S3, rfl⟩) | (refine V.NDraw.any (by kernel_rfl) ?_) | fail)
               all_goals (conv => whnf)
               have F := fin d d2 d3 r0 P2 S2 P3 S3
               exact ⟨rfl, rfl, [(0, _)], _, rfl, rfl, rfl, d3, F.1, F.2, rfl⟩)
        · first
            | (exfalso; omega)
            | (obtain ⟨⟨A1, A2, A3, A4⟩, B1, B2⟩ := parts d r0
               have z1 : d.size = d.size := rfl
               repeat' ((conv => whnf); first | (refine V.NIf.yes ?_ ?_; · (decide; done)) | (refine V.NIf.no ?_ ?_; · (decide; done)) | refine V.NCond.mk ?_ | refine V.NPick.l ?_ | refine V.NIf.not_ ?_ | refine V.NIf.dec_ ?_ | refine V.a4 ?_ | refine V.a5 ?_ | refine V.NIf.mk (fun _ => ?_) (fun _ => ?_) | refine V.a7 ?_ | refine V.a8 ?_ | refine V.a9 ?_ | refine V.NBoth.mk ?_ ?_ | refine V.b1 ?_ | refine V.b2 ?_ | refine V.NTF.dec ?_ | refine V.b3 ?_ | refine V.b4 ?_ | (have c2 := ih d a i mid (by omega) (Nat.le_refl _) q2.1 q2.2 (by omega) z1 A1 A2 B1; refine Fam.use c2 hT [(0, _)] rfl rfl rfl (fun k hk => rfl) ?_; rintro g2 ⟨d2, P2, S2, rfl⟩; have A3' := St.sorted_perm A3 P2 (.inr (Nat.le_refl _)); have A4' := St.sorted_perm A4 P2 (.inr (by omega)); have z2 : d2.size = d.size := P2.1.trans z1; have B2' : ∀ p q, mid ≤ p → p < e → e ≤ q → q < b → lessP cf d2[q]! d2[p]! = lt d2[q]! d2[p]! := fun p q h1 h2 h3 h4 => (by rw [P2.2.1 p (by omega), P2.2.1 q (by omega)]; exact B2 p q h1 h2 h3 h4)) | (refine V.NDraw.any (by kernel_rfl) ?_) | fail)
               all_goals (conv => whnf)
               have F := fin d d2 d2 r0 P2 S2 (permIn_refl _ _ _) (St.sorted_one A3' A4' (by omega) eb q3)
               exact ⟨rfl, rfl, [(0, _)], _, rfl, rfl, rfl, d2, F.1, F.2, rfl⟩)
      · by_cases q3 : mid < e ∧ e < b
        · first
            | (exfalso; omega)
            | (obtain ⟨⟨A1, A2, A3, A4⟩, B1, B2⟩ := parts d r0
               have z1 : d.size = d.size := rfl
               repeat' ((conv => whnf); first | (refine V.NIf.yes ?_ ?_; · (decide; done)) | (refine V.NIf.no ?_ ?_; · (decide; done)) | refine V.NCond.mk ?_ | refine V.NPick.l ?_ | refine V.NIf.not_ ?_ | refine V.NIf.dec_ ?_ | refine V.a4 ?_ | refine V.a5 ?_ | refine V.NIf.mk (fun _ => ?_) (fun _ => ?_) | refine V.a7 ?_ | refine V.a8 ?_ | refine V.a9 ?_ | refine V.NBoth.mk ?_ ?_ | refine V.b1 ?_ | refine V.b2 ?_ | refine V.NTF.dec ?_ | refine V.b3 ?_ | refine V.b4 ?_ | (have c3 := ih d mid e b (by omega) (by omega) q3.1 q3.2 (Nat.le_refl _) z1 A3 A4 B2; rw [← ei] at c3; refine Fam.use c3 hT [(0, _)] rfl rfl rfl (fun k hk => rfl) ?_; rintro g3 ⟨d3, P3, S3, rfl⟩) | (refine V.NDraw.any (by kernel_rfl) ?_) | fail)
               all_goals (conv => whnf)
               have F := fin d d d3 r0 (permIn_refl _ _ _) (St.sorted_one A1 A2 hai (by omega) q2) P3 S3
               exact ⟨rfl, rfl, [(0, _)], _, rfl, rfl, rfl, d3, F.1, F.2, rfl⟩)
        · first
            | (exfalso; omega)
            | (obtain ⟨⟨A1, A2, A3, A4⟩, B1, B2⟩ := parts d r0
               have z1 : d.size = d.size := rfl
               repeat' ((conv => whnf); first | (refine V.NIf.yes ?_ ?_; · (decide; done)) | (refine V.NIf.no ?_ ?_; · (decide; done)) | refine V.NCond.mk ?_ | refine V.NPick.l ?_ | refine V.NIf.not_ ?_ | refine V.NIf.dec_ ?_ | refine V.a4 ?_ | refine V.a5 ?_ | refine V.NIf.mk (fun _ => ?_) (fun _ => ?_) | refine V.a7 ?_ | refine V.a8 ?_ | refine V.a9 ?_ | refine V.NBoth.mk ?_ ?_ | refine V.b1 ?_ | refine V.b2 ?_ | refine V.NTF.dec ?_ | refine V.b3 ?_ | refine V.b4 ?_ | (refine V.NDraw.any (by kernel_rfl) ?_) | fail)
               all_goals (conv => whnf)
               have F := fin d d d r0 (permIn_refl _ _ _) (St.sorted_one A1 A2 hai (by omega) q2) (permIn_refl _ _ _) (St.sorted_one A3 A4 (by omega) eb q3)
               exact ⟨rfl, rfl, [(0, _)], _, rfl, rfl, rfl, d, F.1, F.2, rfl⟩)
end Go.Proofs.YtpanlcnoopmchaaGreat

namespace Go.Proofs.YtpanlcnoopmchaaGreat
open Go Go.Sort Go.RowKit V
set_option maxHeartbeats 4000000
theorem v_symP (nx : Nat) (O : Obs) (hT : Tail (nx + 1) O) (g : FuncId) (cf : PtT → PtT → Int) (hc : CmpP g cf) (lt : PtT → PtT → Bool) (S : SWO lt) (sz : Nat) (h3 : sz ≤ 2305843009213693951) : ∀ (N : Nat) (d : Array PtT) (a m b : Nat), b - a ≤ N → a < m → m < b → b ≤ d.size → d.size = sz → SortedIn lt a m d → SortedIn lt m b d →
    (∀ i j, a ≤ i → i < m → m ≤ j → j < b → lessP cf d[j]! d[i]! = lt d[j]! d[i]!) →
    Fam Tryz.prog 171 [.one (.ref 0), .one (.val (.int .i64 ((a : Int)))), .one (.val (.int .i64 ((m : Int)))), .one (.val (.int .i64 ((b : Int)))), .one (.clo g [])] 65 3 sz (ga encTP d.toList) nx O (fun r => ∃ d', PermIn a b d d' ∧ SortedIn lt a b d' ∧ r = ga encTP d'.toList)
  | 0, d, a, m, b, hN, h0, h1, _, _, _, _, _ => absurd hN (by omega)
  | N + 1, d, a, m, b, hN, h0, h1, h2, hs, H1, H2, HT => by
    subst hs
    have ih := fun (e : Array PtT) (x y z : Nat) (q1 : z - x < b - a) (q2 : a ≤ x) (q3 : x < y) (q4 : y < z) (q5 : z ≤ b) (q6 : e.size = d.size) r1 r2 r3 => v_symP nx O hT g cf hc lt S d.size h3 N e x y z (by omega) q3 q4 (by omega) q6 r1 r2 r3
    by_cases hA : m = a + 1
    · subst hA
      exact v_symAP nx O hT g cf hc lt S d a b (by omega) h2 (by omega) H2 (fun j j1 j2 => HT a j (Nat.le_refl _) (by omega) j1 j2)
    by_cases hB : b = m + 1
    · subst hB
      exact v_symBP nx O hT g cf hc lt S d a m (by omega) h2 (by omega) H1 (fun i i1 i2 => HT i m i1 i2 (Nat.le_refl _) (by omega))
    by_cases hm : (a + b) / 2 < m
    · exact v_symC1P nx O hT g cf hc lt S d a m b (by omega) (by omega) h2 h3 H1 H2 HT hm ih
    · exact v_symC0P nx O hT g cf hc lt S d a m b (by omega) (by omega) h2 h3 H1 H2 HT (by omega) ih
theorem v_stabP (nx : Nat) (O : Obs) (hT : Tail (nx + 1) O) (g : FuncId) (cf : PtT → PtT → Int) (hc : CmpP g cf) (lt : PtT → PtT → Bool) (S : SWO lt) (HL : ∀ x y : PtT, x.tg < y.tg → lessP cf y x = lt y x) (d : Array PtT) (h3 : d.size ≤ 1152921504606846975) (ht : ∀ i, i < d.size → d[i]!.tg = i) :
    Fam Tryz.prog 165 [.one (.ref 0), .one (.val (.int .i64 ((d.size : Int)))), .one (.clo g [])] 65 3 d.size (ga encTP d.toList) nx O (fun r => ∃ d', PermIn 0 d.size d d' ∧ SortedIn lt 0 d.size d' ∧ r = ga encTP d'.toList) := by
  refine Fam.mk hT ?_
  obtain ⟨n, en⟩ : ∃ n, d.size = n := ⟨_, rfl⟩
  rw [en] at h3 ht ⊢
  refine V.NCall.inl (f := 165) V.Tok V.mixed Tryz.func165 rfl Tryz.ntmps165 (by kernel_rfl) rfl ?_
  repeat' ((conv => whnf); first | refine V.NCond.mk ?_ | refine V.NPick.l ?_ | refine V.NIf.not_ ?_ | refine V.NIf.dec_ ?_ | refine V.a4 ?_ | refine V.a5 ?_ | refine V.NIf.mk (fun _ => ?_) (fun _ => ?_) | refine V.a7 ?_ | refine V.a8 ?_ | refine V.a9 ?_ | refine V.NBoth.mk ?_ ?_ | refine V.b1 ?_ | refine V.b2 ?_ | refine V.NTF.dec ?_ | refine V.b3 ?_ | refine V.b4 ?_ | (refine V.NDraw.any (by kernel_rfl) ?_) | fail)
  all_goals (conv => whnf)
  have ins : ∀ (d1 : Array PtT) (a b : Nat), d1.size = n → a ≤ b → b ≤ n → (∀ i, a ≤ i → i < n → d1[i]! = d[i]!) → PermIn a b d1 (insertionSort (lessP cf) d1 a b) ∧ St.Good PtT.tg lt a b (insertionSort (lessP cf) d1 a b) := fun d1 a b s1 ab bn same => by
    have tg1 : ∀ i, a ≤ i → i < b → d1[i]!.tg = i := fun i q1 q2 => by rw [same i q1 (by omega)]; exact ht i (by omega)
    rw [St.ins_eq (l1 := lt) (by omega) (fun p q q1 q2 q3 => HL _ _ (by rw [tg1 p (by omega) q1, tg1 q q2 (by omega)]; exact q3))]
    have h := insertionSort_holds S d1 a b ab (by omega)
    exact ⟨h.1, St.Good.of_perm (by omega) (fun i q1 q2 => by rw [tg1 i q1 q2]; omega) h.1 h.2⟩
  refine NLoop.fam hT (fun (s : Nat × Array PtT) => [(7, .one (.val (.int .i64 ((s.1 * 20 : Nat) : Int)))), (8, .one (.val (.int .i64 ((s.1 * 20 + 20 : Nat) : Int))))]) [(0, .one (.ref 0)), (1, .one (.val (.int .i64 n))), (2, .one (.clo g [])), (6, .one (.val (.int .i64 20)))] 65 3 n (fun s => ga encTP s.2.toList) (fun s => n - s.1 * 20) (fun s => s.1 * 20 ≤ n ∧ PermIn 0 n d s.2 ∧ St.To PtT.tg lt 20 (s.1 * 20) s.2 ∧ ∀ i, s.1 * 20 ≤ i → i < n → s.2[i]! = d[i]!) (0, d) ⟨Nat.zero_le _, permIn_refl _ _ _, St.To.zero 20 d, fun _ _ _ => rfl⟩ [(0, _)] rfl rfl rfl (fun k hk => rfl) V.S_ (fun _ => rfl) rfl ?_
  rintro ⟨K, d1⟩ ⟨hK, P, TO, same⟩
  dsimp only at hK P TO same ⊢
  have s1 : d1.size = n := by rw [P.1, en]
  obtain ⟨a, ea⟩ : ∃ a, a = K * 20 := ⟨_, rfl⟩
  rw [← ea] at hK TO same ⊢
  by_cases hlt : a + 20 ≤ n
  · obtain ⟨I1, I2⟩ := ins d1 a (a + 20) s1 (by omega) hlt same
    have c := v_insP nx O hT g cf hc d1 a (a + 20) (by omega) (by omega) (by omega)
    rw [s1] at c
    generalize insertionSort (lessP cf) d1 a (a + 20) = d2 at *
    have ek : (K + 1) * 20 = a + 20 := by omega
    have TO2 := (TO.same (fun i q => I1.2.1 i (.inl q))).push ea (by omega) I2
    have P2 : PermIn 0 n d d2 := permIn_trans _ _ _ _ _ P (permIn_mono _ _ _ _ 0 n (Nat.zero_le _) hlt (by omega) I1)
    have same2 : ∀ i, a + 20 ≤ i → i < n → d2[i]! = d[i]! := fun i q1 q2 => by rw [I1.2.1 i (.inr q1)]; exact same i (by omega) q2
    repeat' ((conv => whnf); first | refine V.NCond.mk ?_ | refine V.NPick.l ?_ | refine V.NIf.not_ ?_ | refine V.NIf.dec_ ?_ | refine V.a4 ?_ | refine V.a5 ?_ | refine V.NIf.mk (fun _ => ?_) (fun _ => ?_) | refine V.a7 ?_ | refine V.a8 ?_ | refine V.a9 ?_ | refine V.NBoth.mk ?_ ?_ | refine V.b1 ?_ | refine V.b2 ?_ | refine V.NTF.dec ?_ | refine V.b3 ?_ | refine V.b4 ?_ | (refine Fam.use c hT [(0, _)] rfl rfl rfl (fun k hk => rfl) ?_; rintro g1 rfl) | (refine V.NDraw.any (by kernel_rfl) ?_) | fail)
    all_goals (conv => whnf)
    exact FBack.at_ hT (K + 1, d2) [(0, _)] (by dsimp only; rw [ek]; exact ⟨hlt, P2, TO2, same2⟩) (by dsimp only; omega) ⟨congrArg (fun z : Int => SV.one (At.val (Value.int .i64 z))) (show ((a + 20 : Nat) : Int) = (((K + 1) * 20 : Nat) : Int) by omega), congrArg (fun z : Int => SV.one (At.val (Value.int .i64 z))) (show ((a + 20 : Nat) : Int) + 20 = (((K + 1) * 20 + 20 : Nat) : Int) by omega), rfl, rfl, rfl, rfl, trivial⟩ rfl rfl rfl (fun k hk => rfl)
  · obtain ⟨I1, I2⟩ := ins d1 a n s1 hK (Nat.le_refl _) same
    have c := v_insP nx O hT g cf hc d1 a n hK (by omega) (by omega)
    rw [s1] at c
    generalize insertionSort (lessP cf) d1 a n = d2 at *
    have P2 : PermIn 0 n d d2 := permIn_trans _ _ _ _ _ P (permIn_mono _ _ _ _ 0 n (Nat.zero_le _) (Nat.le_refl _) (by omega) I1)
    have TO2 : St.To PtT.tg lt 20 n d2 := by
      have t0 := TO.same (fun i q => I1.2.1 i (.inl q))
      by_cases z : a < n
      · exact t0.last ea (by omega) I2 z (by omega)
      · obtain rfl : a = n := by omega
        exact t0
    clear ins I1 I2 TO same P
    repeat' ((conv => whnf); first | refine V.NCond.mk ?_ | refine V.NPick.l ?_ | refine V.NIf.not_ ?_ | refine V.NIf.dec_ ?_ | refine V.a4 ?_ | refine V.a5 ?_ | refine V.NIf.mk (fun _ => ?_) (fun _ => ?_) | refine V.a7 ?_ | refine V.a8 ?_ | refine V.a9 ?_ | refine V.NBoth.mk ?_ ?_ | refine V.b1 ?_ | refine V.b2 ?_ | refine V.NTF.dec ?_ | refine V.b3 ?_ | refine V.b4 ?_ | (refine Fam.use c hT [(0, _)] rfl rfl rfl (fun k hk => rfl) ?_; rintro g1 rfl) | (refine V.NDraw.any (by kernel_rfl) ?_) | fail)
    all_goals (conv => whnf)
    refine NLoop.fam hT (fun (s : Nat × Array PtT) => [(6, .one (.val (.int .i64 s.1)))]) [(0, .one (.ref 0)), (1, .one (.val (.int .i64 n))), (2, .one (.clo g []))] 65 3 n (fun s => ga encTP s.2.toList) (fun s => n - s.1) (fun s => 20 ≤ s.1 ∧ s.1 ≤ 2 * n + 20 ∧ PermIn 0 n d s.2 ∧ St.To PtT.tg lt s.1 n s.2) (20, d2) ⟨Nat.le_refl _, by dsimp only; omega, P2, TO2⟩ [(0, _)] rfl rfl rfl (fun k hk => rfl) V.S_ (fun _ => rfl) rfl ?_
    clear P2 TO2 c d2 s1 hlt ea hK a K d1
    rintro ⟨bs, d1⟩ ⟨hb, hb2, P, TO⟩
    dsimp only at hb hb2 P TO ⊢
    have s1 : d1.size = n := by rw [P.1, en]
    by_cases hlt : bs < n
    · repeat' ((conv => whnf); first | refine V.NCond.mk ?_ | refine V.NPick.l ?_ | refine V.NIf.not_ ?_ | refine V.NIf.dec_ ?_ | refine V.a4 ?_ | refine V.a5 ?_ | refine V.NIf.mk (fun _ => ?_) (fun _ => ?_) | refine V.a7 ?_ | refine V.a8 ?_ | refine V.a9 ?_ | refine V.NBoth.mk ?_ ?_ | refine V.b1 ?_ | refine V.b2 ?_ | refine V.NTF.dec ?_ | refine V.b3 ?_ | refine V.b4 ?_ | (refine V.NDraw.any (by kernel_rfl) ?_) | fail)
      all_goals (conv => whnf)
      refine NLoop.fam hT (fun (s : Nat × Array PtT) => [(7, .one (.val (.int .i64 ((s.1 * (2 * bs) : Nat) : Int)))), (8, .one (.val (.int .i64 ((s.1 * (2 * bs) + 2 * bs : Nat) : Int))))]) [(0, .one (.ref 0)), (1, .one (.val (.int .i64 n))), (2, .one (.clo g [])), (6, .one (.val (.int .i64 bs)))] 65 3 n (fun s => ga encTP s.2.toList) (fun s => n - s.1 * (2 * bs)) (fun s => s.1 * (2 * bs) ≤ n ∧ PermIn 0 n d s.2 ∧ St.To PtT.tg lt (2 * bs) (s.1 * (2 * bs)) s.2 ∧ St.Fr PtT.tg lt bs (s.1 * (2 * bs)) n s.2) (0, d1) ⟨by dsimp only; rw [Nat.zero_mul]; exact Nat.zero_le _, P, by dsimp only; rw [Nat.zero_mul]; exact St.To.zero _ _, by dsimp only; rw [Nat.zero_mul]; exact St.Fr.of_to TO⟩ [(0, _)] rfl rfl rfl (fun k hk => rfl) ⟨congrArg (fun z : Int => SV.one (At.val (Value.int .i64 z))) (show (0 : Int) = ((0 * (2 * bs) : Nat) : Int) by rw [Nat.zero_mul]; rfl), congrArg (fun z : Int => SV.one (At.val (Value.int .i64 z))) (show (2 : Int) * bs = ((0 * (2 * bs) + 2 * bs : Nat) : Int) by rw [Nat.zero_mul]; omega), rfl, rfl, rfl, rfl, trivial⟩ (fun _ => rfl) rfl ?_
      clear P TO s1 d1
      rintro ⟨K, d1⟩ ⟨hK, P, TO, FR⟩
      dsimp only at hK P TO FR ⊢
      have s1 : d1.size = n := by rw [P.1, en]
      obtain ⟨a, ea⟩ : ∃ a, a = K * (2 * bs) := ⟨_, rfl⟩
      rw [← ea] at hK TO FR ⊢
      by_cases hle : a + 2 * bs ≤ n
      · have G1 := FR.head (by omega)
        rw [show min (a + bs) n = a + bs by omega] at G1
        have G2 := FR.tail.head (by omega)
        rw [show min (a + bs + bs) n = a + 2 * bs by omega] at G2
        have c := v_symP nx O hT g cf hc lt S n (by omega) (a + 2 * bs - a) d1 a (a + bs) (a + 2 * bs) (Nat.le_refl _) (by omega) (by omega) (by omega) s1 G1.s G2.s (fun i j i1 i2 j1 j2 => HL _ _ (by have := G1.t i i1 i2; have := G2.t j j1 j2; omega))
        have ek : (K + 1) * (2 * bs) = a + 2 * bs := by rw [Nat.succ_mul, ← ea]
        repeat' ((conv => whnf); first | refine V.NCond.mk ?_ | refine V.NPick.l ?_ | refine V.NIf.not_ ?_ | refine V.NIf.dec_ ?_ | refine V.a4 ?_ | refine V.a5 ?_ | refine V.NIf.mk (fun _ => ?_) (fun _ => ?_) | refine V.a7 ?_ | refine V.a8 ?_ | refine V.a9 ?_ | refine V.NBoth.mk ?_ ?_ | refine V.b1 ?_ | refine V.b2 ?_ | refine V.NTF.dec ?_ | refine V.b3 ?_ | refine V.b4 ?_ | (refine Fam.use c hT [(0, _)] rfl rfl rfl (fun k hk => rfl) ?_; rintro g1 ⟨d2, P2, S2, rfl⟩) | (refine V.NDraw.any (by kernel_rfl) ?_) | fail)
        all_goals (conv => whnf)
        have G := St.Good.merge (by omega) (by omega) (by omega) G1 G2 P2 S2
        have TO2 := (TO.same (fun i q => P2.2.1 i (.inl q))).push ea (by omega) G
        have FR2 : St.Fr PtT.tg lt bs (a + 2 * bs) n d2 := by
          have q := FR.tail.tail
          rw [show a + bs + bs = a + 2 * bs by omega] at q
          exact q.same fun i q => P2.2.1 i (.inr q)
        exact FBack.at_ hT (K + 1, d2) [(0, _)] (by dsimp only; rw [ek]; exact ⟨hle, permIn_trans _ _ _ _ _ P (permIn_mono _ _ _ _ 0 n (Nat.zero_le _) hle (by omega) P2), TO2, FR2⟩) (by dsimp only; rw [ek]; omega) ⟨congrArg (fun z : Int => SV.one (At.val (Value.int .i64 z))) (show ((a + 2 * bs : Nat) : Int) = (((K + 1) * (2 * bs) : Nat) : Int) by rw [ek]), congrArg (fun z : Int => SV.one (At.val (Value.int .i64 z))) (show ((a + 2 * bs : Nat) : Int) + 2 * (bs : Int) = (((K + 1) * (2 * bs) + 2 * bs : Nat) : Int) by rw [ek]; omega), rfl, rfl, rfl, rfl, trivial⟩ rfl rfl rfl (fun k hk => rfl)
      · by_cases hm : a + bs < n
        · have G1 := FR.head (by omega)
          rw [show min (a + bs) n = a + bs by omega] at G1
          have G2 := FR.tail.head hm
          rw [show min (a + bs + bs) n = n by omega] at G2
          have c := v_symP nx O hT g cf hc lt S n (by omega) (n - a) d1 a (a + bs) n (Nat.le_refl _) (by omega) hm (by omega) s1 G1.s G2.s (fun i j i1 i2 j1 j2 => HL _ _ (by have := G1.t i i1 i2; have := G2.t j j1 j2; omega))
          rw [show ((a + bs : Nat) : Int) = (a : Int) + bs by omega] at c
          repeat' ((conv => whnf); first | refine V.NCond.mk ?_ | refine V.NPick.l ?_ | refine V.NIf.not_ ?_ | refine V.NIf.dec_ ?_ | refine V.a4 ?_ | refine V.a5 ?_ | refine V.NIf.mk (fun _ => ?_) (fun _ => ?_) | refine V.a7 ?_ | refine V.a8 ?_ | refine V.a9 ?_ | refine V.NBoth.mk ?_ ?_ | refine V.b1 ?_ | refine V.b2 ?_ | refine V.NTF.dec ?_ | refine V.b3 ?_ | refine V.b4 ?_ | (refine Fam.use c hT [(0, _)] rfl rfl rfl (fun k hk => rfl) ?_; rintro g1 ⟨d2, P2, S2, rfl⟩) | (refine V.NDraw.any (by kernel_rfl) ?_) | fail)
          all_goals (conv => whnf)
          have G := St.Good.merge (by omega) (by omega) (by omega) G1 G2 P2 S2
          have TO2 := (TO.same (fun i q => P2.2.1 i (.inl q))).last ea (by omega) G (by omega) (by omega)
          exact FBack.at_ hT (2 * bs, d2) [(0, _)] ⟨by dsimp only; omega, by dsimp only; omega, permIn_trans _ _ _ _ _ P (permIn_mono _ _ _ _ 0 n (Nat.zero_le _) (Nat.le_refl _) (by omega) P2), TO2⟩ (by dsimp only; omega) ⟨congrArg (fun z : Int => SV.one (At.val (Value.int .i64 z))) (show (bs : Int) * 2 = ((2 * bs : Nat) : Int) by omega), rfl, rfl, rfl, trivial⟩ rfl rfl rfl (fun k hk => rfl)
        · have TO2 : St.To PtT.tg lt (2 * bs) n d1 := by
            by_cases z : a < n
            · have G1 := FR.head z
              rw [show min (a + bs) n = n by omega] at G1
              exact TO.last ea (by omega) G1 z (by omega)
            · obtain rfl : a = n := by omega
              exact TO
          repeat' ((conv => whnf); first | refine V.NCond.mk ?_ | refine V.NPick.l ?_ | refine V.NIf.not_ ?_ | refine V.NIf.dec_ ?_ | refine V.a4 ?_ | refine V.a5 ?_ | refine V.NIf.mk (fun _ => ?_) (fun _ => ?_) | refine V.a7 ?_ | refine V.a8 ?_ | refine V.a9 ?_ | refine V.NBoth.mk ?_ ?_ | refine V.b1 ?_ | refine V.b2 ?_ | refine V.NTF.dec ?_ | refine V.b3 ?_ | refine V.b4 ?_ | (refine V.NDraw.any (by kernel_rfl) ?_) | fail)
          all_goals (conv => whnf)
          exact FBack.at_ hT (2 * bs, d1) [(0, _)] ⟨by dsimp only; omega, by dsimp only; omega, P, TO2⟩ (by dsimp only; omega) ⟨congrArg (fun z : Int => SV.one (At.val (Value.int .i64 z))) (show (bs : Int) * 2 = ((2 * bs : Nat) : Int) by omega), rfl, rfl, rfl, trivial⟩ rfl rfl rfl (fun k hk => rfl)
    · repeat' ((conv => whnf); first | refine V.NCond.mk ?_ | refine V.NPick.l ?_ | refine V.NIf.not_ ?_ | refine V.NIf.dec_ ?_ | refine V.a4 ?_ | refine V.a5 ?_ | refine V.NIf.mk (fun _ => ?_) (fun _ => ?_) | refine V.a7 ?_ | refine V.a8 ?_ | refine V.a9 ?_ | refine V.NBoth.mk ?_ ?_ | refine V.b1 ?_ | refine V.b2 ?_ | refine V.NTF.dec ?_ | refine V.b3 ?_ | refine V.b4 ?_ | (refine V.NDraw.any (by kernel_rfl) ?_) | fail)
      all_goals (conv => whnf)
      exact ⟨rfl, rfl, [(0, _)], _, rfl, rfl, rfl, d1, P, TO.all (by omega), rfl⟩
end Go.Proofs.YtpanlcnoopmchaaGreat

namespace Go.Proofs.YtpanlcnoopmchaaGreat.V
open Go Go.RowKit
end Go.Proofs.YtpanlcnoopmchaaGreat.V

namespace Go.Proofs.YtpanlcnoopmchaaGreat
open Go
structure Lt where
  day : Int
  un : Int
  co : Int
instance : Inhabited Lt := ⟨⟨0, 0, 0⟩⟩
end Go.Proofs.YtpanlcnoopmchaaGreat

namespace Go.Proofs.YtpanlcnoopmchaaGreat
open Go Go.RowKit V
instance : DecidableEq Du := fun x y => decidable_of_iff (x.fr = y.fr ∧ x.to = y.to ∧ x.am = y.am) ⟨fun h => by cases x; cases y; simp_all, fun h => by subst h; simp⟩
instance : DecidableEq Po := fun x y => decidable_of_iff (x.ac = y.ac ∧ x.ut = y.ut ∧ x.am = y.am) ⟨fun h => by cases x; cases y; simp_all, fun h => by subst h; simp⟩
theorem Po_ne {x y : Po} (h : ¬ (x.ac = y.ac ∧ x.ut = y.ut ∧ x.am = y.am ∧ True)) : x ≠ y := fun e => by subst e; exact h (by simp)
theorem Po_eq {x y : Po} (h : x.ac = y.ac ∧ x.ut = y.ut ∧ x.am = y.am ∧ True) : x = y := by cases x; cases y; simp_all
theorem v_sameposts (a b : List Po) (ha : a.length ≤ 9223372036854775807) : V.Fn Tryz.prog 19 [.arr 3 a.length (ga encP a), .arr 3 b.length (ga encP b)] [.one (.ref 0), .one (.ref 1)] (.bool (decide (a = b))) := by
  refine V.Fn.mk_ V.Tok V.mixed Tryz.func19 rfl Tryz.ntmps19 (by kernel_rfl) rfl rfl ?_
  repeat' ((conv => whnf); first | refine V.NCond.mk ?_ | refine V.NPick.l ?_ | refine V.NIf.not_ ?_ | refine V.NIf.dec_ ?_ | refine V.a4 ?_ | refine V.a5 ?_ | refine V.NIf.mk (fun _ => ?_) (fun _ => ?_) | refine V.a7 ?_ | refine V.a8 ?_ | refine V.a9 ?_ | refine V.NBoth.mk ?_ ?_ | refine V.b1 ?_ | refine V.b2 ?_ | refine V.NTF.dec ?_ | refine V.b3 ?_ | refine V.b4 ?_ | (refine V.NDraw.any (by kernel_rfl) ?_) | fail)
  rotate_left
  · exact congrArg Value.bool (decide_eq_false (by rintro rfl; omega)).symm
  (conv => whnf)
  rename_i hl
  have hl : a.length = b.length := by omega
  refine V.NLoop.auto (fun (k : Nat) => [(5, .one (.val (.int .i64 k)))]) (fun (k : Nat) => []) [] [] (fun (k : Nat) => a.length - k) (fun (k : Nat) => k ≤ a.length ∧ a.take k = b.take k) 0 ⟨by omega, by simp⟩ V.S_ V.S_ (fun _ => ⟨rfl, rfl⟩) ?_; (conv => whnf); refine ⟨⟨rfl, rfl⟩, ?_⟩
  rintro k ⟨hk, hJ⟩
  by_cases hlt : k < a.length
  · have e1 := getD_at (l := a) (by omega)
    have e2 := getD_at (l := b) (k := k) (by omega)
    repeat' ((conv => whnf); first | refine V.NCond.mk ?_ | refine V.NPick.l ?_ | refine V.NIf.not_ ?_ | refine V.NIf.dec_ ?_ | refine V.a4 ?_ | refine V.a5 ?_ | refine V.NIf.mk (fun _ => ?_) (fun _ => ?_) | refine V.a7 ?_ | refine V.a8 ?_ | refine V.a9 ?_ | refine V.NBoth.mk ?_ ?_ | refine V.b1 ?_ | refine V.b2 ?_ | refine V.NTF.dec ?_ | refine V.b3 ?_ | refine V.b4 ?_ | (refine NIdx.mk ⟨k, rfl, by omega, ?_⟩) | (refine V.NDraw.any (by kernel_rfl) ?_) | fail)
    all_goals (conv => whnf)
    · rename_i q
      exact V.NBack.at_ (k + 1) [] ⟨by omega, by rw [List.take_succ_eq_append_getElem hlt, List.take_succ_eq_append_getElem (by omega), hJ, ← e1, ← e2, Po_eq q]⟩ (by omega) V.S_ rfl V.S_ V.S_ V.S_
    · rename_i q
      exact congrArg Value.bool (decide_eq_false (by rintro rfl; exact Po_ne q rfl)).symm
  · obtain rfl : k = a.length := by omega
    repeat' ((conv => whnf); first | refine V.NCond.mk ?_ | refine V.NPick.l ?_ | refine V.NIf.not_ ?_ | refine V.NIf.dec_ ?_ | refine V.a4 ?_ | refine V.a5 ?_ | refine V.NIf.mk (fun _ => ?_) (fun _ => ?_) | refine V.a7 ?_ | refine V.a8 ?_ | refine V.a9 ?_ | refine V.NBoth.mk ?_ ?_ | refine V.b1 ?_ | refine V.b2 ?_ | refine V.NTF.dec ?_ | refine V.b3 ?_ | refine V.b4 ?_ | (refine V.NDraw.any (by kernel_rfl) ?_) | fail)
    (conv => whnf)
    refine congrArg Value.bool (decide_eq_true ?_).symm
    rw [List.take_length, List.take_of_length_le (by omega)] at hJ
    exact hJ
instance : DecidableEq Fl := fun x y => decidable_of_iff (x.id = y.id ∧ x.fr = y.fr ∧ x.to = y.to ∧ x.cl = y.cl ∧ x.pa = y.pa ∧ x.day = y.day ∧ x.un = y.un ∧ x.de = y.de ∧ x.bo = y.bo ∧ x.pd = y.pd) ⟨fun h => by cases x; cases y; simp_all, fun h => by subst h; simp⟩
theorem Fl_ne {x y : Fl} (h : ¬ (x.id = y.id ∧ x.fr = y.fr ∧ x.to = y.to ∧ x.cl = y.cl ∧ x.pa = y.pa ∧ x.day = y.day ∧ x.un = y.un ∧ x.de = y.de ∧ x.bo = y.bo ∧ x.pd = y.pd ∧ True)) : x ≠ y := fun e => by subst e; exact h (by simp)
theorem Fl_eq {x y : Fl} (h : x.id = y.id ∧ x.fr = y.fr ∧ x.to = y.to ∧ x.cl = y.cl ∧ x.pa = y.pa ∧ x.day = y.day ∧ x.un = y.un ∧ x.de = y.de ∧ x.bo = y.bo ∧ x.pd = y.pd ∧ True) : x = y := by cases x; cases y; simp_all
theorem v_samefails (a b : List Fl) (ha : a.length ≤ 9223372036854775807) : V.Fn Tryz.prog 26 [.arr 10 a.length (ga encF a), .arr 10 b.length (ga encF b)] [.one (.ref 0), .one (.ref 1)] (.bool (decide (a = b))) := by
  refine V.Fn.mk_ V.Tok V.mixed Tryz.func26 rfl Tryz.ntmps26 (by kernel_rfl) rfl rfl ?_
  repeat' ((conv => whnf); first | refine V.NCond.mk ?_ | refine V.NPick.l ?_ | refine V.NIf.not_ ?_ | refine V.NIf.dec_ ?_ | refine V.a4 ?_ | refine V.a5 ?_ | refine V.NIf.mk (fun _ => ?_) (fun _ => ?_) | refine V.a7 ?_ | refine V.a8 ?_ | refine V.a9 ?_ | refine V.NBoth.mk ?_ ?_ | refine V.b1 ?_ | refine V.b2 ?_ | refine V.NTF.dec ?_ | refine V.b3 ?_ | refine V.b4 ?_ | (refine V.NDraw.any (by kernel_rfl) ?_) | fail)
  rotate_left
  · exact congrArg Value.bool (decide_eq_false (by rintro rfl; omega)).symm
  (conv => whnf)
  rename_i hl
  have hl : a.length = b.length := by omega
  refine V.NLoop.auto (fun (k : Nat) => [(5, .one (.val (.int .i64 k)))]) (fun (k : Nat) => []) [] [] (fun (k : Nat) => a.length - k) (fun (k : Nat) => k ≤ a.length ∧ a.take k = b.take k) 0 ⟨by omega, by simp⟩ V.S_ V.S_ (fun _ => ⟨rfl, rfl⟩) ?_; (conv => whnf); refine ⟨⟨rfl, rfl⟩, ?_⟩
  rintro k ⟨hk, hJ⟩
  by_cases hlt : k < a.length
  · have e1 := getD_at (l := a) (by omega)
    have e2 := getD_at (l := b) (k := k) (by omega)
    repeat' ((conv => whnf); first | refine V.NCond.mk ?_ | refine V.NPick.l ?_ | refine V.NIf.not_ ?_ | refine V.NIf.dec_ ?_ | refine V.a4 ?_ | refine V.a5 ?_ | refine V.NIf.mk (fun _ => ?_) (fun _ => ?_) | refine V.a7 ?_ | refine V.a8 ?_ | refine V.a9 ?_ | refine V.NBoth.mk ?_ ?_ | refine V.b1 ?_ | refine V.b2 ?_ | refine V.NTF.dec ?_ | refine V.b3 ?_ | refine V.b4 ?_ | (refine NIdx.mk ⟨k, rfl, by omega, ?_⟩) | (refine V.NDraw.any (by kernel_rfl) ?_) | fail)
    all_goals (conv => whnf)
    · rename_i q
      exact V.NBack.at_ (k + 1) [] ⟨by omega, by rw [List.take_succ_eq_append_getElem hlt, List.take_succ_eq_append_getElem (by omega), hJ, ← e1, ← e2, Fl_eq q]⟩ (by omega) V.S_ rfl V.S_ V.S_ V.S_
    · rename_i q
      exact congrArg Value.bool (decide_eq_false (by rintro rfl; exact Fl_ne q rfl)).symm
  · obtain rfl : k = a.length := by omega
    repeat' ((conv => whnf); first | refine V.NCond.mk ?_ | refine V.NPick.l ?_ | refine V.NIf.not_ ?_ | refine V.NIf.dec_ ?_ | refine V.a4 ?_ | refine V.a5 ?_ | refine V.NIf.mk (fun _ => ?_) (fun _ => ?_) | refine V.a7 ?_ | refine V.a8 ?_ | refine V.a9 ?_ | refine V.NBoth.mk ?_ ?_ | refine V.b1 ?_ | refine V.b2 ?_ | refine V.NTF.dec ?_ | refine V.b3 ?_ | refine V.b4 ?_ | (refine V.NDraw.any (by kernel_rfl) ?_) | fail)
    (conv => whnf)
    refine congrArg Value.bool (decide_eq_true ?_).symm
    rw [List.take_length, List.take_of_length_le (by omega)] at hJ
    exact hJ
instance : DecidableEq Lt := fun x y => decidable_of_iff (x.day = y.day ∧ x.un = y.un ∧ x.co = y.co) ⟨fun h => by cases x; cases y; simp_all, fun h => by subst h; simp⟩
end Go.Proofs.YtpanlcnoopmchaaGreat

namespace Go.Proofs.YtpanlcnoopmchaaGreat
namespace Bk
def key (p : Po) : Nat := (21 * p.ac + p.ut).toNat
theorem key_r {p : Po} (h : Right p) : key p < 2121 ∧ p.ac = ((key p / 21 : Nat) : Int) ∧ p.ut = ((key p % 21 : Nat) : Int) := by
  obtain ⟨⟨h1, h2⟩, _⟩ := h
  unfold key
  omega
theorem key_lx {p q : Po} (hp : Right p) (hq : Right q) : lx p q = true ↔ key p < key q := by
  obtain ⟨⟨h1, h2⟩, _⟩ := hp
  obtain ⟨⟨h3, h4⟩, _⟩ := hq
  unfold lx key
  rw [decide_eq_true_eq]
  omega
theorem key_eq {p q : Po} (hp : Right p) (hq : Right q) : key p = key q ↔ p.ac = q.ac ∧ p.ut = q.ut := by
  obtain ⟨⟨h1, h2⟩, _⟩ := hp
  obtain ⟨⟨h3, h4⟩, _⟩ := hq
  unfold key
  omega
def amk (l : List Po) (k : Nat) : List Int := (l.filter fun p => decide (key p = k)).map (·.am)
def tot (l : List Po) (k : Nat) : Int := M.sum (amk l k)
theorem amk_app (b l : List Po) (k : Nat) : amk (b ++ l) k = amk b k ++ amk l k := by unfold amk; rw [List.filter_append, List.map_append]
theorem tot_app (b l : List Po) (k : Nat) : tot (b ++ l) k = tot b k + tot l k := by unfold tot; rw [amk_app, M.sum_append]
theorem sum_perm {l m : List Int} (h : l.Perm m) : M.sum l = M.sum m := by
  induction h with
  | nil => rfl
  | cons x _ ih => simp only [M.sum, ih]
  | swap x y l => simp only [M.sum]; omega
  | trans _ _ h1 h2 => exact h1.trans h2
theorem tot_perm {l m : List Po} (h : l.Perm m) (k : Nat) : tot l k = tot m k := sum_perm ((h.filter _).map _)
theorem tot_none {l : List Po} {k : Nat} (h : ∀ p ∈ l, key p ≠ k) : tot l k = 0 := by
  unfold tot amk
  rw [List.filter_eq_nil_iff.2 fun p hp => by simpa using h p hp]
  rfl
theorem amk_amt {l : List Po} (h : ∀ p ∈ l, Right p) (k : Nat) : ∀ a ∈ amk l k, M.Amt a := fun a ha => by
  obtain ⟨p, hp, rfl⟩ := List.mem_map.1 ha
  exact (h p (List.mem_filter.1 hp).1).2.1
theorem amk_len (l : List Po) (k : Nat) : (amk l k).length ≤ l.length := by
  unfold amk
  rw [List.length_map]
  exact List.length_filter_le _ _
def one (T : Nat → Int) (k : Nat) : Option Po := if T k = 0 then none else some ⟨((k / 21 : Nat) : Int), ((k % 21 : Nat) : Int), T k⟩
def out (T : Nat → Int) (n : Nat) : List Po := (List.range n).filterMap (one T)
theorem out_succ (T : Nat → Int) (n : Nat) : out T (n + 1) = out T n ++ if T n = 0 then [] else [⟨((n / 21 : Nat) : Int), ((n % 21 : Nat) : Int), T n⟩] := by
  unfold out
  rw [List.range_succ, List.filterMap_append]
  congr 1
  unfold one
  by_cases h : T n = 0
  · rw [if_pos h]; simp [h]
  · rw [if_neg h]; simp [h]
theorem out_len (T : Nat → Int) (n : Nat) : (out T n).length ≤ n := by
  unfold out
  exact Nat.le_trans (List.length_filterMap_le _ _) (by simp)
theorem out_skip (T : Nat → Int) {m n : Nat} (h : m ≤ n) (z : ∀ k, m ≤ k → k < n → T k = 0) : out T n = out T m := by
  induction n with
  | zero => rw [show m = 0 by omega]
  | succ n ih =>
    by_cases e : m = n + 1
    · rw [e]
    · rw [out_succ, if_pos (z n (by omega) (by omega)), List.append_nil]
      exact ih (by omega) fun k h1 h2 => z k h1 (by omega)
theorem out_mem {T : Nat → Int} {n : Nat} {p : Po} : p ∈ out T n ↔ ∃ k, k < n ∧ T k ≠ 0 ∧ p = ⟨((k / 21 : Nat) : Int), ((k % 21 : Nat) : Int), T k⟩ := by
  unfold out
  rw [List.mem_filterMap]
  constructor
  · rintro ⟨k, hk, e⟩
    unfold one at e
    split at e
    · cases e
    · exact ⟨k, List.mem_range.1 hk, by assumption, (Option.some.inj e).symm⟩
  · rintro ⟨k, hk, h, e⟩
    exact ⟨k, List.mem_range.2 hk, by unfold one; rw [if_neg h, e]⟩
theorem key_out (k : Nat) (n : Int) : key ⟨((k / 21 : Nat) : Int), ((k % 21 : Nat) : Int), n⟩ = k := by
  unfold key; simp only; omega
theorem out_srt (T : Nat → Int) (n : Nat) : (out T n).Pairwise fun p q => key p < key q := by
  induction n with
  | zero => exact List.Pairwise.nil
  | succ n ih =>
    rw [out_succ]
    by_cases h : T n = 0
    · rw [if_pos h, List.append_nil]; exact ih
    · rw [if_neg h]
      refine List.pairwise_append.2 ⟨ih, List.pairwise_singleton _ _, fun p hp q hq => ?_⟩
      obtain ⟨k, hk, _, rfl⟩ := out_mem.1 hp
      rw [List.mem_singleton.1 hq, key_out, key_out]
      exact hk
theorem tot_in {l : List Po} (s : l.Pairwise fun p q => key p ≠ key q) {p : Po} (hp : p ∈ l) : tot l (key p) = p.am := by
  induction l with
  | nil => cases hp
  | cons q r ih =>
    rw [List.pairwise_cons] at s
    have e : ∀ k, tot (q :: r) k = tot [q] k + tot r k := fun k => tot_app [q] r k
    rw [e]
    rcases List.mem_cons.1 hp with rfl | hr
    · rw [tot_none fun x hx => (s.1 x hx).symm]
      simp [tot, amk, M.sum]
    · rw [ih s.2 hr, tot_none fun x hx => by rw [List.mem_singleton.1 hx]; exact s.1 p hr]
      omega
theorem ne_of_lt {l : List Po} (s : l.Pairwise fun p q => key p < key q) : l.Pairwise fun p q => key p ≠ key q := s.imp fun h => by omega
theorem tot_out {T : Nat → Int} {n k : Nat} (hk : k < n) : tot (out T n) k = T k := by
  by_cases h : T k = 0
  · rw [h]
    refine tot_none fun p hp e => ?_
    obtain ⟨j, hj, hz, rfl⟩ := out_mem.1 hp
    rw [key_out] at e
    subst e
    exact hz h
  · have := tot_in (ne_of_lt (out_srt T n)) (out_mem.2 ⟨k, hk, h, rfl⟩)
    rwa [key_out] at this
theorem lines_srt {b : List Po} (h : Lines b) : b.Pairwise fun p q => key p < key q := by
  refine List.pairwise_iff_getElem.2 fun i j hi hj hij => ?_
  exact (key_lx (h.r _ (List.getElem_mem hi)) (h.r _ (List.getElem_mem hj))).1 (List.pairwise_iff_getElem.1 h.s i j hi hj hij)
theorem is_out {b : List Po} (h : Lines b) : b = out (tot b) 2121 := by
  have s := lines_srt h
  refine List.Perm.eq_of_pairwise (le := fun p q => key p < key q) (fun p q _ _ h1 h2 => by omega) s (out_srt _ _) ?_
  refine (List.perm_ext_iff_of_nodup (s.imp fun h e => by subst e; omega) ((out_srt _ _).imp fun h e => by subst e; omega)).2 fun p => ?_
  constructor
  · intro hp
    obtain ⟨k1, k2, k3⟩ := key_r (h.r p hp)
    have t := tot_in (ne_of_lt s) hp
    refine out_mem.2 ⟨key p, k1, by rw [t]; exact (h.r p hp).2.2, ?_⟩
    rw [t, ← k2, ← k3]
  · intro hp
    obtain ⟨k, hk, hz, rfl⟩ := out_mem.1 hp
    have : ∃ q ∈ b, key q = k := Classical.byContradiction fun z => hz (tot_none fun q hq e => z ⟨q, hq, e⟩)
    obtain ⟨q, hq, rfl⟩ := this
    obtain ⟨k1, k2, k3⟩ := key_r (h.r q hq)
    rw [tot_in (ne_of_lt s) hq, ← k2, ← k3]
    exact hq
def su (T : Nat → Int) (u : Nat) : Nat → Int
  | 0 => 0
  | a + 1 => su T u a + T (21 * a + u)
theorem su_add (S T : Nat → Int) (u : Nat) : ∀ a, su (fun k => S k + T k) u a = su S u a + su T u a
  | 0 => rfl
  | a + 1 => by simp only [su, su_add S T u a]; omega
theorem su_congr {S T : Nat → Int} {u : Nat} : ∀ {a : Nat}, (∀ j, j < a → S (21 * j + u) = T (21 * j + u)) → su S u a = su T u a
  | 0, _ => rfl
  | a + 1, h => by simp only [su, su_congr (a := a) fun j hj => h j (by omega), h a (by omega)]
theorem su_one (p : Po) (u : Nat) (hu : u < 21) (h : Right p) : ∀ a, su (tot [p]) u a = if p.ut = (u : Int) ∧ p.ac < (a : Int) then p.am else 0
  | 0 => by
    rw [if_neg (by have := h.1.1.1; omega)]; rfl
  | a + 1 => by
    obtain ⟨⟨h1, h2⟩, _⟩ := h
    have e : tot [p] (21 * a + u) = if p.ut = (u : Int) ∧ p.ac = (a : Int) then p.am else 0 := by
      by_cases q : key p = 21 * a + u
      · have : p.ut = (u : Int) ∧ p.ac = (a : Int) := by unfold key at q; omega
        rw [if_pos this]
        simp [tot, amk, q, M.sum]
      · have : ¬ (p.ut = (u : Int) ∧ p.ac = (a : Int)) := fun z => q (by unfold key; omega)
        rw [if_neg this]
        exact tot_none fun x hx => by rw [List.mem_singleton.1 hx]; exact q
    simp only [su]
    rw [su_one p u hu ⟨⟨h1, h2⟩, by assumption⟩ a, e]
    by_cases q : p.ut = (u : Int)
    · by_cases r : p.ac < (a : Int)
      · rw [if_pos ⟨q, r⟩, if_neg (by omega), if_pos ⟨q, by omega⟩]; omega
      · by_cases s : p.ac = (a : Int)
        · rw [if_neg (by omega), if_pos ⟨q, s⟩, if_pos ⟨q, by omega⟩]; omega
        · rw [if_neg (by omega), if_neg (by omega), if_neg (by omega)]; rfl
    · rw [if_neg (fun z => q z.1), if_neg (fun z => q z.1), if_neg (fun z => q z.1)]; rfl
theorem su_all : ∀ {l : List Po}, (∀ p ∈ l, Right p) → ∀ u, u < 21 → M.sum (amu l u) = su (tot l) u 101
  | [], _, u, _ => by
    have : ∀ a, su (tot []) u a = 0 := fun a => by
      induction a with
      | zero => rfl
      | succ a ih => simp only [su, ih]; rfl
    rw [this]; rfl
  | p :: r, h, u, hu => by
    have ih := su_all (l := r) (fun q hq => h q (by simp [hq])) u hu
    have e : su (tot (p :: r)) u 101 = su (tot [p]) u 101 + su (tot r) u 101 := by
      rw [← su_add]
      exact su_congr fun j _ => tot_app [p] r _
    have hp := h p (by simp)
    rw [e, su_one p u hu hp, ← ih]
    have : amu (p :: r) u = (if p.ut = (u : Int) then [p.am] else []) ++ amu r u := by
      unfold amu
      rw [List.filter_cons]
      by_cases q : p.ut = (u : Int)
      · simp [q]
      · simp [q]
    rw [this, M.sum_append]
    refine congrArg (· + M.sum (amu r u)) ?_
    have ac := hp.1.1.2
    have w : p.ut = (u : Int) → p.ut = (u : Int) ∧ p.ac < ((101 : Nat) : Int) := fun q => ⟨q, by omega⟩
    generalize ((101 : Nat) : Int) = N at *
    by_cases q : p.ut = (u : Int)
    · rw [if_pos q, if_pos (w q)]
      show p.am + 0 = p.am
      omega
    · rw [if_neg q, if_neg (fun z => q z.1)]; rfl
theorem even_su {l : List Po} (h : ∀ p ∈ l, Right p) : even l = true ↔ ∀ u, u < 21 → su (tot l) u 101 = 0 := by
  rw [even_iff]
  exact ⟨fun q u hu => by rw [← su_all h u hu]; exact q u hu, fun q u hu => by rw [su_all h u hu]; exact q u hu⟩
def wideT (T : Nat → Int) : Bool := (List.range 2121).any fun k => !decide (M.Amt (T k))
theorem wide_no {T : Nat → Int} (h : wideT T = false) (k : Nat) (hk : k < 2121) : M.Amt (T k) := by
  refine Classical.byContradiction fun z => ?_
  have : wideT T = true := List.any_eq_true.2 ⟨k, List.mem_range.2 hk, by simp [z]⟩
  rw [h] at this; cases this
theorem wide_yes {T : Nat → Int} {k : Nat} (hk : k < 2121) (h : ¬ M.Amt (T k)) : wideT T = true := List.any_eq_true.2 ⟨k, List.mem_range.2 hk, by simp [h]⟩
theorem no_wide {T : Nat → Int} (h : ∀ k, k < 2121 → M.Amt (T k)) : wideT T = false := by
  cases q : wideT T
  · rfl
  · obtain ⟨k, hk, e⟩ := List.any_eq_true.1 q
    have := h k (List.mem_range.1 hk)
    simp [this] at e
def mE (T : Nat → Int) : Int := if wideT T = true then 8 else if 400 < (out T 2121).length then 2 else 0
def mL (T : Nat → Int) : List Po := if mE T = 0 then out T 2121 else []
def pE (b l : List Po) : Int := if lines b ≠ 0 then lines b else if chk l ≠ 0 then chk l else mE (tot (b ++ l))
def pL (b l : List Po) : List Po := if pE b l = 0 then out (tot (b ++ l)) 2121 else []
theorem out_right {T : Nat → Int} (h : ∀ k, k < 2121 → M.Amt (T k)) : ∀ p ∈ out T 2121, Right p := fun p hp => by
  obtain ⟨k, hk, hz, rfl⟩ := out_mem.1 hp
  exact ⟨⟨by simp only; omega, by simp only; omega⟩, h k hk, hz⟩
theorem out_lines {T : Nat → Int} (h : ∀ k, k < 2121 → M.Amt (T k)) (n : (out T 2121).length ≤ 400) : Lines (out T 2121) := by
  have r := out_right h
  refine ⟨n, r, ?_⟩
  refine List.pairwise_iff_getElem.2 fun i j hi hj hij => ?_
  exact (key_lx (r _ (List.getElem_mem hi)) (r _ (List.getElem_mem hj))).2 (List.pairwise_iff_getElem.1 (out_srt T 2121) i j hi hj hij)
theorem pE_cases (b l : List Po) : (¬ lines b = 0 ∧ pE b l = lines b) ∨ (lines b = 0 ∧ ¬ chk l = 0 ∧ pE b l = chk l) ∨ (lines b = 0 ∧ chk l = 0 ∧ pE b l = mE (tot (b ++ l))) := by
  unfold pE
  by_cases h1 : lines b = 0
  · rw [if_neg (fun z => z h1)]
    by_cases h2 : chk l = 0
    · rw [if_neg (fun z => z h2)]; exact .inr (.inr ⟨h1, h2, rfl⟩)
    · rw [if_pos h2]; exact .inr (.inl ⟨h1, h2, rfl⟩)
  · rw [if_pos h1]; exact .inl ⟨h1, rfl⟩
theorem mE_0 {T : Nat → Int} (h : mE T = 0) : (∀ k, k < 2121 → M.Amt (T k)) ∧ (out T 2121).length ≤ 400 := by
  unfold mE at h
  split at h
  · omega
  · rename_i w
    split at h
    · omega
    · exact ⟨wide_no (by simpa using w), by omega⟩
theorem mE_is {T : Nat → Int} (h : ∀ k, k < 2121 → M.Amt (T k)) : mE T = if 400 < (out T 2121).length then 2 else 0 := by
  unfold mE
  rw [if_neg (by rw [no_wide h]; decide)]
def ws (l : List Po) (k q : Nat) : Int × Int := wst (amu (l.take k) q)
theorem ws_succ {l : List Po} {k : Nat} (h : k < l.length) (u : Nat) (hu : (l.getD k default).ut = (u : Int)) (q : Nat) : ws l (k + 1) q = if q = u then wadd (ws l k u) (l.getD k default).am else ws l k q := by
  unfold ws
  rw [show l.take (k + 1) = l.take k ++ [l.getD k default] by rw [getD_at h, List.take_succ_eq_append_getElem h], amu_snoc, hu]
  by_cases e : q = u
  · rw [if_pos (by rw [e]), if_pos e, wst_snoc, e]
  · rw [if_neg (by omega), if_neg e, List.append_nil]
theorem ws_spec {l : List Po} (hr : ∀ p ∈ l, Right p) (k u : Nat) : (ws l k u).1 * 1152921504606846976 + (ws l k u).2 = M.sum (amu (l.take k) u) ∧ (-1152921504606846976 < (ws l k u).2 ∧ (ws l k u).2 < 1152921504606846976) ∧ -(l.length : Int) ≤ (ws l k u).1 ∧ (ws l k u).1 ≤ l.length := by
  obtain ⟨a, b, c⟩ := wst_spec (amu (l.take k) u) (amu_amt (fun p hp => hr p (List.mem_of_mem_take hp)) u)
  have d := amu_len (l.take k) u
  have e : (l.take k).length ≤ l.length := by rw [List.length_take]; omega
  unfold ws
  exact ⟨a, b, by omega, by omega⟩
def put (W : Nat → Int × Int) (u : Nat) (x : Int × Int) (q : Nat) : Int × Int := if q = u then x else W q
theorem put_u (W : Nat → Int × Int) (u : Nat) (x : Int × Int) : put W u x u = x := if_pos rfl
theorem put_2 (W : Nat → Int × Int) (u : Nat) (x y : Int × Int) : put (put W u x) u y = put W u y := funext fun q => by
  unfold put
  by_cases e : q = u
  · rw [if_pos e, if_pos e]
  · rw [if_neg e, if_neg e, if_neg e]
end Bk
end Go.Proofs.YtpanlcnoopmchaaGreat

namespace Go.Proofs.YtpanlcnoopmchaaGreat
open Go Go.Sort Go.RowKit V
set_option maxHeartbeats 4000000
theorem v_order (p q : Po) : V.Fn Tryz.prog 90 [] [.agg [.val (.int .i64 p.ac), .val (.int .i64 p.ut), .val (.int .i64 p.am)], .agg [.val (.int .i64 q.ac), .val (.int .i64 q.ut), .val (.int .i64 q.am)]] (.int .i64 (orI (cmpI p.ac q.ac) (cmpI p.ut q.ut))) := by
  have c1 := v_compare p.ac q.ac
  have c2 := v_compare p.ut q.ut
  have c3 := v_or (cmpI p.ac q.ac) (cmpI p.ut q.ut)
  generalize cmpI p.ac q.ac = C1 at *
  generalize cmpI p.ut q.ut = C2 at *
  refine V.Fn.mk_ V.Tok V.mixed Tryz.func90 rfl Tryz.ntmps90 (by kernel_rfl) rfl rfl ?_
  repeat' ((conv => whnf); first | refine V.NCond.mk ?_ | refine V.NPick.l ?_ | refine V.NIf.not_ ?_ | refine V.NIf.dec_ ?_ | refine V.a4 ?_ | refine V.a5 ?_ | refine V.NIf.mk (fun _ => ?_) (fun _ => ?_) | refine V.a7 ?_ | refine V.a8 ?_ | refine V.a9 ?_ | refine V.NBoth.mk ?_ ?_ | refine V.b1 ?_ | refine V.b2 ?_ | refine V.NTF.dec ?_ | refine V.b3 ?_ | refine V.b4 ?_ | (first | refine V.Fn.k0 (c1) rfl ?_ | refine V.Fn.q0 (c1) rfl ?_ | refine V.Fn.a0 (c1) rfl ?_) | (first | refine V.Fn.k0 (c2) rfl ?_ | refine V.Fn.q0 (c2) rfl ?_ | refine V.Fn.a0 (c2) rfl ?_) | ((first | (first | refine V.Fn.k (c3) [2] rfl ?_ ?_ | refine V.Fn.q (c3) [2] rfl ?_ ?_ | refine V.Fn.a (c3) [2] rfl ?_ ?_); · exact V.D_ | (first | refine V.Fn.k (c3) [3] rfl ?_ ?_ | refine V.Fn.q (c3) [3] rfl ?_ ?_ | refine V.Fn.a (c3) [3] rfl ?_ ?_); · exact V.D_)) | (refine V.NDraw.any (by kernel_rfl) ?_) | fail)
  all_goals (conv => whnf)
  all_goals exact V.fin1 rfl
theorem order_lt (p q : Po) : decide (orI (cmpI p.ac q.ac) (cmpI p.ut q.ut) < 0) = Bk.lx p q := orI_lt _ _ _ _
theorem order_ge (p q : Po) : 0 ≤ orI (cmpI p.ac q.ac) (cmpI p.ut q.ut) ↔ Bk.lx p q = false := by
  have := order_lt p q
  rw [← this, decide_eq_false_iff_not]
  omega
theorem order_eq (p q : Po) : orI (cmpI p.ac q.ac) (cmpI p.ut q.ut) = 0 ↔ p.ac = q.ac ∧ p.ut = q.ut := by
  have z : ∀ a b, cmpI a b = 0 ↔ a = b := fun a b => by
    unfold cmpI
    by_cases q : a < b
    · rw [if_pos q]; omega
    · rw [if_neg q]
      by_cases q2 : b < a
      · rw [if_pos q2]; omega
      · rw [if_neg q2]; omega
  unfold orI
  by_cases h : cmpI p.ac q.ac = 0
  · rw [if_pos h, z]
    have := (z _ _).1 h
    omega
  · rw [if_neg h]
    exact ⟨fun e => absurd e h, fun e => absurd ((z _ _).2 e.1) h⟩
theorem v_bkKnown (a u : Int) : V.Fn Tryz.prog 88 [] [.one (.val (.int .i64 a)), .one (.val (.int .i64 u))] (.bool (decide ((0 ≤ a ∧ a ≤ 100) ∧ (0 ≤ u ∧ u ≤ 20)))) := by
  refine V.Fn.mk_ V.Tok V.mixed Tryz.func88 rfl Tryz.ntmps88 (by kernel_rfl) rfl rfl ?_
  repeat' ((conv => whnf); first | refine V.NCond.mk ?_ | refine V.NPick.l ?_ | refine V.NIf.not_ ?_ | refine V.NIf.dec_ ?_ | refine V.a4 ?_ | refine V.a5 ?_ | refine V.NIf.mk (fun _ => ?_) (fun _ => ?_) | refine V.a7 ?_ | refine V.a8 ?_ | refine V.a9 ?_ | refine V.NBoth.mk ?_ ?_ | refine V.b1 ?_ | refine V.b2 ?_ | refine V.NTF.dec ?_ | refine V.b3 ?_ | refine V.b4 ?_ | (refine V.NDraw.any (by kernel_rfl) ?_) | fail)
  all_goals (conv => whnf)
  all_goals first
    | rfl
    | exact ⟨_, rfl, by rw [decide_eq_true_eq]; omega⟩
    | (exact congrArg Value.bool (by simp; omega))
    | trace_state
theorem v_bkRight (p : Po) : V.Fn Tryz.prog 117 [] [.agg [.val (.int .i64 p.ac), .val (.int .i64 p.ut), .val (.int .i64 p.am)]] (.bool (decide (Bk.Right p))) := by
  have c := v_bkKnown p.ac p.ut
  have d := v_check p.am
  have e : M.chk p.am = 0 ↔ M.Amt p.am := ⟨fun q => Classical.byContradiction fun z => by rw [M.chk_no z] at q; omega, M.chk_yes⟩
  have r : Bk.Right p ↔ ((0 ≤ p.ac ∧ p.ac ≤ 100) ∧ (0 ≤ p.ut ∧ p.ut ≤ 20)) ∧ M.chk p.am = 0 ∧ p.am ≠ 0 := by rw [e]; exact Iff.rfl
  generalize M.chk p.am = C at *
  refine V.Fn.mk_ V.Tok V.mixed Tryz.func117 rfl Tryz.ntmps117 (by kernel_rfl) rfl rfl ?_
  repeat' ((conv => whnf); first | refine V.NCond.mk ?_ | refine V.NPick.l ?_ | refine V.NIf.not_ ?_ | refine V.NIf.dec_ ?_ | refine V.a4 ?_ | refine V.a5 ?_ | refine V.NIf.mk (fun _ => ?_) (fun _ => ?_) | refine V.a7 ?_ | refine V.a8 ?_ | refine V.a9 ?_ | refine V.NBoth.mk ?_ ?_ | refine V.b1 ?_ | refine V.b2 ?_ | refine V.NTF.dec ?_ | refine V.b3 ?_ | refine V.b4 ?_ | (first | refine V.Fn.k0 (c) rfl ?_ | refine V.Fn.q0 (c) rfl ?_ | refine V.Fn.a0 (c) rfl ?_) | (first | refine V.Fn.k0 (d) rfl ?_ | refine V.Fn.q0 (d) rfl ?_ | refine V.Fn.a0 (d) rfl ?_) | (refine V.NDraw.any (by kernel_rfl) ?_) | fail)
  all_goals (conv => whnf)
  all_goals first
    | rfl
    | exact ⟨_, rfl, by rw [decide_eq_true_eq, r]; omega⟩
    | (exact congrArg Value.bool (by simp only [r]; simp; omega))
    | trace_state
end Go.Proofs.YtpanlcnoopmchaaGreat

namespace Go.Proofs.YtpanlcnoopmchaaGreat
open Go Go.Sort Go.RowKit V
set_option maxHeartbeats 4000000
def ltP (x y : PtT) : Bool := Bk.lx x.q y.q || (!Bk.lx y.q x.q && decide (x.tg < y.tg))
theorem swoP : SWO ltP where
  irrefl x := by unfold ltP Bk.lx; simp
  trans x y z := by
    unfold ltP Bk.lx
    simp only [Bool.or_eq_true, Bool.and_eq_true, Bool.not_eq_true', decide_eq_true_eq, decide_eq_false_iff_not]
    omega
  ntrans x y z := by
    unfold ltP Bk.lx
    simp only [Bool.or_eq_false_iff, Bool.and_eq_false_iff, Bool.not_eq_false', decide_eq_false_iff_not, decide_eq_true_eq]
    omega
def dP (l : List Po) : Array PtT := (l.mapIdx fun i p => (⟨p, i⟩ : PtT)).toArray
theorem dP_sz (l : List Po) : (dP l).size = l.length := by simp [dP]
theorem dP_at {l : List Po} {i : Nat} (h : i < l.length) : (dP l)[i]! = ⟨l.getD i default, i⟩ := by
  rw [getElem!_pos _ i (by rw [dP_sz]; exact h), getD_at h]
  simp [dP]
theorem ga_dP (l : List Po) : ga encTP (dP l).toList = ga encP l := by
  funext k
  unfold ga
  by_cases h : k < l.length
  · rw [arr_getP, dP_at h]; rfl
  · rw [List.getD_eq_getElem?_getD, List.getD_eq_getElem?_getD, List.getElem?_eq_none (by rw [Array.length_toList, dP_sz]; omega), List.getElem?_eq_none (by omega)]
    rfl
theorem v_sortP (nx : Nat) (O : Obs) (hT : Tail (nx + 1) O) (l : List Po) (hn : l.length ≤ 1152921504606846975) :
    Fam Tryz.prog 153 [.one (.ref 0), .one (.clo 90 [])] 65 3 l.length (ga encP l) nx O (fun r => ∃ S : List Po, S.Perm l ∧ S.Pairwise (fun p q => Bk.lx q p = false) ∧ ∀ k, k < l.length → r k = ga encP S k) := by
  have c := v_stabP nx O hT 90 (fun x y => orI (cmpI x.q.ac y.q.ac) (cmpI x.q.ut y.q.ut)) (fun x y => v_order x.q y.q) ltP swoP (fun x y h => by
    show decide (orI (cmpI y.q.ac x.q.ac) (cmpI y.q.ut x.q.ut) < 0) = ltP y x
    rw [order_lt]
    unfold ltP
    rw [show decide (y.tg < x.tg) = false by simp; omega, Bool.and_false, Bool.or_false]) (dP l) (by rw [dP_sz]; exact hn) (fun i hi => by rw [dP_sz] at hi; rw [dP_at hi])
  rw [dP_sz, ga_dP] at c
  have done : ∀ d' : Array PtT, PermIn 0 l.length (dP l) d' → SortedIn ltP 0 l.length d' → ∃ S : List Po, S.Perm l ∧ S.Pairwise (fun p q => Bk.lx q p = false) ∧ ∀ k, k < l.length → ga encTP d'.toList k = ga encP S k := fun d' P s => by
    have s1 : d'.size = l.length := by rw [P.1, dP_sz]
    have p : d'.toList.Perm (dP l).toList := by
      have := P.2.2
      rwa [show d'.extract 0 l.length = d' by rw [← s1]; simp, show (dP l).extract 0 l.length = dP l by rw [← dP_sz l]; simp] at this
    have em : (dP l).toList.map PtT.q = l := by
      refine List.ext_getElem (by simp [dP]) fun i h1 h2 => ?_
      simp [dP]
    refine ⟨d'.toList.map PtT.q, by have := p.map PtT.q; rwa [em] at this, ?_, fun k hk => ?_⟩
    · refine List.pairwise_map.2 (List.pairwise_iff_getElem.2 fun i j hi hj hij => ?_)
      have q := s i j (Nat.zero_le _) hij (by simpa [s1] using hj)
      rw [← arr_getP, ← arr_getP, getD_at hi, getD_at hj] at q
      unfold ltP at q
      rw [Bool.or_eq_false_iff] at q
      exact q.1
    · unfold ga
      have h1 : k < d'.toList.length := by rw [Array.length_toList, s1]; exact hk
      rw [getD_at h1, getD_at (by rw [List.length_map]; exact h1), List.getElem_map]
      rfl
  refine Fam.mk hT ?_
  refine V.NCall.inl (f := 153) V.Tok V.mixed Tryz.func153 rfl Tryz.ntmps153 (by kernel_rfl) rfl ?_
  repeat' ((conv => whnf); first | refine V.NCond.mk ?_ | refine V.NPick.l ?_ | refine V.NIf.not_ ?_ | refine V.NIf.dec_ ?_ | refine V.a4 ?_ | refine V.a5 ?_ | refine V.NIf.mk (fun _ => ?_) (fun _ => ?_) | refine V.a7 ?_ | refine V.a8 ?_ | refine V.a9 ?_ | refine V.NBoth.mk ?_ ?_ | refine V.b1 ?_ | refine V.b2 ?_ | refine V.NTF.dec ?_ | refine V.b3 ?_ | refine V.b4 ?_ | (refine Fam.use c hT [(0, _)] rfl rfl rfl (fun k hk => rfl) ?_; rintro g1 ⟨d', P, S, rfl⟩) | (refine V.NDraw.any (by kernel_rfl) ?_) | fail)
  all_goals (conv => whnf)
  exact ⟨rfl, rfl, [(0, _)], _, rfl, rfl, rfl, done d' P S⟩
end Go.Proofs.YtpanlcnoopmchaaGreat

namespace Go.Proofs.YtpanlcnoopmchaaGreat
open Go Go.Sort Go.RowKit V
set_option maxHeartbeats 4000000
theorem arr2 {n k : Nat} {v : Go.Value} (h : k < n) : ((List.replicate (n * 2) v).drop (k * 2)).take 2 = [v, v] := by
  rw [List.drop_replicate, List.take_replicate, show min 2 (n * 2 - k * 2) = 2 by omega]
  rfl
theorem v_bkBad (p : Po) : V.Fn Tryz.prog 130 [] [.agg [.val (.int .i64 p.ac), .val (.int .i64 p.ut), .val (.int .i64 p.am)]] (.bool (Bk.bad p)) := by
  refine V.Fn.mk_ V.Tok V.mixed Tryz.func130 rfl Tryz.ntmps130 (by kernel_rfl) rfl rfl ?_
  repeat' ((conv => whnf); first | refine V.NCond.mk ?_ | refine V.NPick.l ?_ | refine V.NIf.not_ ?_ | refine V.NIf.dec_ ?_ | refine V.a4 ?_ | refine V.a5 ?_ | refine V.NIf.mk (fun _ => ?_) (fun _ => ?_) | refine V.a7 ?_ | refine V.a8 ?_ | refine V.a9 ?_ | refine V.NBoth.mk ?_ ?_ | refine V.b1 ?_ | refine V.b2 ?_ | refine V.NTF.dec ?_ | refine V.b3 ?_ | refine V.b4 ?_ | (first | refine V.Fn.k0 (v_bkRight p) rfl ?_ | refine V.Fn.q0 (v_bkRight p) rfl ?_ | refine V.Fn.a0 (v_bkRight p) rfl ?_) | (refine V.NDraw.any (by kernel_rfl) ?_) | fail)
  all_goals (conv => whnf)
  all_goals first
    | rfl
    | exact ⟨_, rfl, by unfold Bk.bad; simp⟩
    | (exact congrArg Value.bool (by unfold Bk.bad; simp; omega))
    | trace_state
theorem v_indexP (l : List Po) (f : FuncId) (p : Po → Bool) (hn : l.length ≤ 9223372036854775807) (hf : ∀ k, k < l.length → V.Fn Tryz.prog f [] [.agg [.val (.int .i64 (l.getD k default).ac), .val (.int .i64 (l.getD k default).ut), .val (.int .i64 (l.getD k default).am)]] (.bool (p (l.getD k default)))) :
    V.Fn Tryz.prog 154 [.arr 3 l.length (ga encP l)] [.one (.ref 0), .one (.clo f [])] (.int .i64 (ixf p l)) := by
  refine V.Fn.mk_ V.Tok V.mixed Tryz.func154 rfl Tryz.ntmps154 (by kernel_rfl) rfl rfl ?_
  repeat' ((conv => whnf); first | refine V.NCond.mk ?_ | refine V.NPick.l ?_ | refine V.NIf.not_ ?_ | refine V.NIf.dec_ ?_ | refine V.a4 ?_ | refine V.a5 ?_ | refine V.NIf.mk (fun _ => ?_) (fun _ => ?_) | refine V.a7 ?_ | refine V.a8 ?_ | refine V.a9 ?_ | refine V.NBoth.mk ?_ ?_ | refine V.b1 ?_ | refine V.b2 ?_ | refine V.NTF.dec ?_ | refine V.b3 ?_ | refine V.b4 ?_ | (refine V.NDraw.any (by kernel_rfl) ?_) | fail)
  refine V.NLoop.auto (fun (k : Nat) => [(8, .one (.val (.int .i64 k)))]) (fun (k : Nat) => []) [] [] (fun (k : Nat) => l.length - k) (fun (k : Nat) => k ≤ l.length ∧ ∀ d ∈ l.take k, p d = false) 0 ⟨by omega, by simp⟩ V.S_ V.S_ (fun _ => ⟨rfl, rfl⟩) ?_; (conv => whnf); refine ⟨⟨rfl, rfl⟩, ?_⟩
  rintro k ⟨hk, hJ⟩
  repeat' ((conv => whnf); first | refine V.NCond.mk ?_ | refine V.NPick.l ?_ | refine V.NIf.not_ ?_ | refine V.NIf.dec_ ?_ | refine V.a4 ?_ | refine V.a5 ?_ | refine V.NIf.mk (fun _ => ?_) (fun _ => ?_) | refine V.a7 ?_ | refine V.a8 ?_ | refine V.a9 ?_ | refine V.NBoth.mk ?_ ?_ | refine V.b1 ?_ | refine V.b2 ?_ | refine V.NTF.dec ?_ | refine V.b3 ?_ | refine V.b4 ?_ | (refine NIdx.mk ⟨_, rfl, by omega, ?_⟩) | (first | refine V.Fn.k0 (hf k (by omega)) rfl ?_ | refine V.Fn.q0 (hf k (by omega)) rfl ?_ | refine V.Fn.a0 (hf k (by omega)) rfl ?_) | (refine V.NDraw.any (by kernel_rfl) ?_) | fail)
  all_goals (conv => whnf)
  · exact V.fin1 (ixf_get (by omega) hJ (by assumption))
  · exact V.NBack.at_ (k + 1) [] ⟨by omega, all_snoc (by omega) hJ (by simpa using ‹¬ p (l.getD k default) = true›)⟩ (by omega) V.S_ rfl V.S_ V.S_ V.S_
  · exact V.fin1 (ixf_no (all_whole (by omega) hJ))
theorem v_bkHas (l : List Po) (hn : l.length ≤ 9223372036854775807) : V.Fn Tryz.prog 129 [.arr 3 l.length (ga encP l)] [.one (.ref 0), .one (.clo 130 [])] (.bool (decide (0 ≤ ixf Bk.bad l))) := by
  have c := v_indexP l 130 Bk.bad hn (fun k _ => v_bkBad _)
  refine V.Fn.mk_ V.Tok V.mixed Tryz.func129 rfl Tryz.ntmps129 (by kernel_rfl) rfl rfl ?_
  repeat' ((conv => whnf); first | refine V.NCond.mk ?_ | refine V.NPick.l ?_ | refine V.NIf.not_ ?_ | refine V.NIf.dec_ ?_ | refine V.a4 ?_ | refine V.a5 ?_ | refine V.NIf.mk (fun _ => ?_) (fun _ => ?_) | refine V.a7 ?_ | refine V.a8 ?_ | refine V.a9 ?_ | refine V.NBoth.mk ?_ ?_ | refine V.b1 ?_ | refine V.b2 ?_ | refine V.NTF.dec ?_ | refine V.b3 ?_ | refine V.b4 ?_ | ((first | refine V.Fn.k (c) [0] rfl ?_ ?_ | refine V.Fn.q (c) [0] rfl ?_ ?_ | refine V.Fn.a (c) [0] rfl ?_ ?_); · exact V.D_) | (refine V.NDraw.any (by kernel_rfl) ?_) | fail)
  all_goals (conv => whnf)
  exact ⟨_, rfl, decide_eq_true_iff.symm⟩
theorem put_is (W W' : Nat → Int × Int) (u : Nat) (a b : Int) (h : W' = Bk.put W u (a, b)) (q : Nat) : [Value.int .i64 (W' q).1, Value.int .i64 (W' q).2] = if q = u then [.int .i64 a, .int .i64 b] else [.int .i64 (W q).1, .int .i64 (W q).2] := by
  rw [h]
  unfold Bk.put
  by_cases e : q = u
  · rw [if_pos e, if_pos e]
  · rw [if_neg e, if_neg e]
theorem v_even (l : List Po) (hn : l.length ≤ 1000) (hr : ∀ p ∈ l, Bk.Right p) : V.Fn Tryz.prog 118 [.arr 3 l.length (ga encP l)] [.one (.ref 0)] (.bool (Bk.even l)) := by
  refine V.Fn.mk_ V.Tok V.mixed Tryz.func118 rfl Tryz.ntmps118 (by kernel_rfl) rfl rfl ?_
  repeat' ((conv => whnf); first | refine V.NCond.mk ?_ | refine V.NPick.l ?_ | refine V.NIf.not_ ?_ | refine V.NIf.dec_ ?_ | refine V.a4 ?_ | refine V.a5 ?_ | refine V.NIf.mk (fun _ => ?_) (fun _ => ?_) | refine V.a7 ?_ | refine V.a8 ?_ | refine V.a9 ?_ | refine V.NBoth.mk ?_ ?_ | refine V.b1 ?_ | refine V.b2 ?_ | refine V.NTF.dec ?_ | refine V.b3 ?_ | refine V.b4 ?_ | (refine V.NDraw.any (by kernel_rfl) ?_) | fail)
  all_goals (conv => whnf)
  refine V.NLoop.auto (fun (k : Nat) => [(9, .one (.val (.int .i64 k)))]) (fun (k : Nat) => [(1, .row 154 2 21 (fun q => [.int .i64 (Bk.ws l k q).1, .int .i64 (Bk.ws l k q).2]))]) [] [] (fun (k : Nat) => l.length - k) (fun (k : Nat) => k ≤ l.length) 0 (Nat.zero_le _) V.S_ (by (conv => whnf); exact ⟨⟨rfl, rfl, rfl, fun k hk => (show List.take 2 (List.drop (k * 2) (List.replicate (21 * 2) (Value.int .i64 0))) = _ from arr2 hk)⟩, trivial⟩) (fun _ => ⟨rfl, rfl⟩) ?_; (conv => whnf); refine ⟨⟨rfl, rfl⟩, ?_⟩
  rintro k hk
  by_cases hlt : k < l.length
  · obtain ⟨⟨h1, h2⟩, h3, h4⟩ := hr _ (getD_mem hlt)
    obtain ⟨u, hu⟩ : ∃ u : Nat, (l.getD k default).ut = (u : Int) := ⟨(l.getD k default).ut.toNat, by omega⟩
    obtain ⟨-, ws, wl⟩ := Bk.ws_spec hr k u
    have hx := Bk.ws_succ hlt u hu
    unfold M.Amt at h3
    have dm := Bk.tdm ((Bk.ws l k u).2 + (l.getD k default).am)
    have hx : ∀ q, Bk.ws l (k + 1) q = Bk.put (Bk.ws l k) u ((Bk.ws l k u).1 + ((Bk.ws l k u).2 + (l.getD k default).am).tdiv 1152921504606846976, ((Bk.ws l k u).2 + (l.getD k default).am).tmod 1152921504606846976) q := fun q => hx q
    generalize Bk.ws l k = W at *
    obtain ⟨A, hA⟩ : ∃ A, A = Bk.put W u ((W u).1, (W u).2 + (l.getD k default).am) := ⟨_, rfl⟩
    have eA : (A u).1 = (W u).1 ∧ (A u).2 = (W u).2 + (l.getD k default).am := by rw [hA, Bk.put_u]; exact ⟨rfl, rfl⟩
    rw [← eA.2] at dm hx
    rw [← eA.1] at hx
    have dq : -2 ≤ (A u).2.tdiv 1152921504606846976 ∧ (A u).2.tdiv 1152921504606846976 ≤ 2 := by omega
    obtain ⟨B, hB⟩ : ∃ B, B = Bk.put A u ((A u).1 + (A u).2.tdiv 1152921504606846976, (A u).2) := ⟨_, rfl⟩
    obtain ⟨C, hC⟩ : ∃ C, C = Bk.put A u ((A u).1, (A u).2.tmod 1152921504606846976) := ⟨_, rfl⟩
    obtain ⟨D, hD⟩ : ∃ D, D = Bk.put A u ((A u).1 + (A u).2.tdiv 1152921504606846976, (A u).2.tmod 1152921504606846976) := ⟨_, rfl⟩
    have eB : (B u).1 = (A u).1 + (A u).2.tdiv 1152921504606846976 ∧ (B u).2 = (A u).2 := by rw [hB, Bk.put_u]; exact ⟨rfl, rfl⟩
    have eC : (C u).1 = (A u).1 ∧ (C u).2 = (A u).2.tmod 1152921504606846976 := by rw [hC, Bk.put_u]; exact ⟨rfl, rfl⟩
    have pA := put_is W A u _ _ hA
    have pB := put_is A B u _ _ hB
    have pC := put_is A C u _ _ hC
    have pD := put_is B D u (B u).1 ((A u).2.tmod 1152921504606846976) (by rw [hD, eB.1, hB, Bk.put_2])
    have pE := put_is C D u ((A u).1 + (A u).2.tdiv 1152921504606846976) (C u).2 (by rw [hD, eC.2, hC, Bk.put_2])
    have hx : ∀ q, Bk.ws l (k + 1) q = D q := fun q => by rw [hx, hD, hA, Bk.put_2]
    clear hA hB hC hD
    repeat' ((conv => whnf); first | (refine V.NDraw.each (by kernel_rfl) ?_) | refine V.NCond.mk ?_ | refine V.NPick.l ?_ | refine V.NIf.not_ ?_ | refine V.NIf.dec_ ?_ | refine V.a4 ?_ | refine V.a5 ?_ | refine V.NIf.mk (fun _ => ?_) (fun _ => ?_) | refine V.a7 ?_ | refine V.a8 ?_ | refine V.a9 ?_ | refine V.NBoth.mk ?_ ?_ | refine V.b1 ?_ | refine V.b2 ?_ | refine V.NTF.dec ?_ | refine V.b3 ?_ | refine V.b4 ?_ | (refine NIdx.mk ⟨k, rfl, by omega, ?_⟩) | (refine NIdx.mk ⟨u, hu, by omega, ?_⟩) | (refine V.NCall.inl (f := 127) V.Tok V.mixed Tryz.func127 rfl Tryz.ntmps127 (by kernel_rfl) rfl ?_) | (refine NQuo.ok (by decide) (by omega) (by omega) ?_) | (refine NRem.mk (by decide) ?_) | (refine ⟨⟨fun q => [.int .i64 (A q).1, .int .i64 (A q).2], fun q hq => pA q, ?_⟩⟩) | (refine ⟨⟨fun q => [.int .i64 (B q).1, .int .i64 (B q).2], fun q hq => pB q, ?_⟩⟩) | (refine ⟨⟨fun q => [.int .i64 (C q).1, .int .i64 (C q).2], fun q hq => pC q, ?_⟩⟩) | (refine ⟨⟨fun q => [.int .i64 (D q).1, .int .i64 (D q).2], fun q hq => pD q, ?_⟩⟩) | (refine ⟨⟨fun q => [.int .i64 (D q).1, .int .i64 (D q).2], fun q hq => pE q, ?_⟩⟩) | (refine V.NDraw.any (by kernel_rfl) ?_) | fail)
    all_goals (conv => whnf)
    all_goals exact V.NBack.at_ (k + 1) [] (by omega) (by omega) V.S_ rfl ⟨⟨rfl, rfl, rfl, fun q _ => by show [_, _] = [_, _]; rw [hx q]⟩, trivial⟩ V.S_ V.S_
  obtain rfl : k = l.length := by omega
  have wsp := fun u => Bk.ws_spec hr l.length u
  rw [List.take_length] at wsp
  have ev := Bk.even_iff l
  generalize Bk.ws l l.length = W at *
  repeat' ((conv => whnf); first | refine V.NCond.mk ?_ | refine V.NPick.l ?_ | refine V.NIf.not_ ?_ | refine V.NIf.dec_ ?_ | refine V.a4 ?_ | refine V.a5 ?_ | refine V.NIf.mk (fun _ => ?_) (fun _ => ?_) | refine V.a7 ?_ | refine V.a8 ?_ | refine V.a9 ?_ | refine V.NBoth.mk ?_ ?_ | refine V.b1 ?_ | refine V.b2 ?_ | refine V.NTF.dec ?_ | refine V.b3 ?_ | refine V.b4 ?_ | (refine V.NDraw.any (by kernel_rfl) ?_) | fail)
  all_goals (conv => whnf)
  refine V.NLoop.auto (fun (i : Nat) => [(20, .one (.val (.int .i64 i)))]) (fun (i : Nat) => []) [] [] (fun (i : Nat) => 21 - i) (fun (i : Nat) => i ≤ 21 ∧ ∀ u, u < i → M.sum (Bk.amu l u) = 0) 0 ⟨Nat.zero_le _, fun u h => absurd h (Nat.not_lt_zero _)⟩ V.S_ V.S_ (fun _ => ⟨rfl, rfl⟩) ?_; (conv => whnf); refine ⟨⟨rfl, rfl⟩, ?_⟩
  rintro i ⟨hi, hJ⟩
  have wi := wsp i
  obtain ⟨z, hz, zt⟩ : ∃ z, IntKind.wrap .i64 ((W i).1 * 1152921504606846976) = z ∧ (-1 ≤ (W i).1 ∧ (W i).1 ≤ 1 → z = (W i).1 * 1152921504606846976) := ⟨_, rfl, fun h => by rw [IntKind.wrap_i64]; omega⟩
  obtain ⟨y, hy, yt⟩ : ∃ y, IntKind.wrap .i64 (z + (W i).2) = y ∧ (-1 ≤ (W i).1 ∧ (W i).1 ≤ 1 → y = (W i).1 * 1152921504606846976 + (W i).2) := ⟨_, rfl, fun h => by rw [IntKind.wrap_i64]; have := zt h; omega⟩
  have hq : M.sum (Bk.amu l i) = 0 ↔ y = 0 ∧ -1 ≤ (W i).1 ∧ (W i).1 ≤ 1 := by
    by_cases h : -1 ≤ (W i).1 ∧ (W i).1 ≤ 1
    · have := yt h; omega
    · omega
  have evf : i < 21 → ¬ M.sum (Bk.amu l i) = 0 → Bk.even l = false := fun h1 h2 => by
    cases e : Bk.even l
    · rfl
    · exact absurd (ev.1 e i h1) h2
  clear zt yt
  repeat' ((conv => whnf); first | refine V.NCond.mk ?_ | refine V.NPick.l ?_ | refine V.NIf.not_ ?_ | refine V.NIf.dec_ ?_ | refine V.a4 ?_ | refine V.a5 ?_ | refine V.NIf.mk (fun _ => ?_) (fun _ => ?_) | refine V.a7 ?_ | refine V.a8 ?_ | refine V.a9 ?_ | refine V.NBoth.mk ?_ ?_ | refine V.b1 ?_ | refine V.b2 ?_ | refine V.NTF.dec ?_ | refine V.b3 ?_ | refine V.b4 ?_ | (refine NIdx.mk ⟨i, rfl, by omega, ?_⟩) | (refine V.NCall.inl (f := 151) V.Tok V.mixed Tryz.func151 rfl Tryz.ntmps151 (by kernel_rfl) rfl ?_) | (refine NWrap.mk ?_; rw [hz]) | (refine NWrap.mk ?_; rw [hy]) | (refine V.NDraw.any (by kernel_rfl) ?_) | fail)
  all_goals (conv => whnf)
  all_goals first
    | exact V.NBack.at_ (i + 1) [] ⟨by omega, fun u hu => (show u < i ∨ u = i by omega).elim (hJ u) (fun e => by rw [e]; exact hq.2 (by omega))⟩ (by omega) V.S_ rfl V.S_ V.S_ V.S_
    | exact congrArg Value.bool (evf (by omega) (fun e => by have := hq.1 e; omega)).symm
    | exact congrArg Value.bool (ev.2 fun u hu => hJ u (by omega)).symm
    | trace_state
end Go.Proofs.YtpanlcnoopmchaaGreat

namespace Go.Proofs.YtpanlcnoopmchaaGreat
open Go Go.Sort Go.RowKit V
set_option maxHeartbeats 4000000
theorem v_bkCheck (l : List Po) (hn : l.length ≤ 9223372036854775807) : V.Fn Tryz.prog 87 [.arr 3 l.length (ga encP l)] [.one (.ref 0)] (.int .i64 (Bk.chk l)) := by
  have cc := Bk.chk_cases l
  have ce := fun (q : l.length ≤ 1000) (r : ixf Bk.bad l < 0) => v_even l q (by
    rcases ixf_cases Bk.bad l with ⟨_, a⟩ | ⟨k, e, _⟩
    · intro p hp
      have := a p hp
      unfold Bk.bad at this
      simpa using this
    · omega)
  have h1 := v_bkHas l hn
  generalize ixf Bk.bad l = ix at *
  generalize Bk.chk l = c at *
  generalize Bk.even l = ev at *
  refine V.Fn.mk_ V.Tok V.mixed Tryz.func87 rfl Tryz.ntmps87 (by kernel_rfl) rfl rfl ?_
  repeat' ((conv => whnf); first | refine V.NCond.mk ?_ | refine V.NPick.l ?_ | refine V.NIf.not_ ?_ | refine V.NIf.dec_ ?_ | refine V.a4 ?_ | refine V.a5 ?_ | refine V.NIf.mk (fun _ => ?_) (fun _ => ?_) | refine V.a7 ?_ | refine V.a8 ?_ | refine V.a9 ?_ | refine V.NBoth.mk ?_ ?_ | refine V.b1 ?_ | refine V.b2 ?_ | refine V.NTF.dec ?_ | refine V.b3 ?_ | refine V.b4 ?_ | ((first | refine V.Fn.k (h1) [0] rfl ?_ ?_ | refine V.Fn.q (h1) [0] rfl ?_ ?_ | refine V.Fn.a (h1) [0] rfl ?_ ?_); · exact V.D_) | ((first | refine V.Fn.k (ce (by omega) (by omega)) [0] rfl ?_ ?_ | refine V.Fn.q (ce (by omega) (by omega)) [0] rfl ?_ ?_ | refine V.Fn.a (ce (by omega) (by omega)) [0] rfl ?_ ?_); · exact V.D_) | (refine V.NDraw.any (by kernel_rfl) ?_) | fail)
  all_goals (conv => whnf)
  all_goals exact V.fin1 (by rcases cc with ⟨h1, h2⟩ | ⟨h1, h2⟩ | ⟨h1, h2, h3⟩ | ⟨h1, h2, h3, h4, h5⟩ | ⟨h1, h2, h3, h4, h5⟩ <;> first | omega | (simp_all; done) | (simp_all; omega))
theorem v_bkLines (l : List Po) (hn : l.length ≤ 9223372036854775807) : V.Fn Tryz.prog 63 [.arr 3 l.length (ga encP l)] [.one (.ref 0)] (.int .i64 (Bk.lines l)) := by
  have lc := Bk.lines_cases l
  have lq : l.length ≤ 400 → Ca.fe (Bk.eAt l) l.length = 0 → Bk.Lines l := fun h1 h2 => Bk.fe_ok h1 h2
  have ce := fun (q : Bk.Lines l) => v_even l (Nat.le_trans q.le (by decide)) q.r
  have lf : l.length ≤ 400 → Ca.fe (Bk.eAt l) l.length ≠ 0 → Bk.lines l = Ca.fe (Bk.eAt l) l.length := fun h1 h2 => by omega
  have le : l.length ≤ 400 → Ca.fe (Bk.eAt l) l.length = 0 → Bk.lines l = if Bk.even l = true then 0 else 4 := fun h1 h2 => by
    rcases lc with ⟨h, e⟩ | ⟨_, h, e⟩ | ⟨_, _, h, e⟩ | ⟨_, _, h, e⟩
    · omega
    · exact absurd h2 h
    · rw [h, e]; rfl
    · rw [h, e]; rfl
  generalize Bk.even l = ev at *
  have l2 : 400 < l.length → Bk.lines l = 2 := fun h => by
    rcases lc with ⟨_, e⟩ | ⟨h', _⟩ | ⟨_, h', _⟩ | ⟨_, h', _⟩
    · exact e
    · omega
    · have := h'.le; omega
    · have := h'.le; omega
  clear lc
  refine V.Fn.mk_ V.Tok V.mixed Tryz.func63 rfl Tryz.ntmps63 (by kernel_rfl) rfl rfl ?_
  repeat' ((conv => whnf); first | refine V.NCond.mk ?_ | refine V.NPick.l ?_ | refine V.NIf.not_ ?_ | refine V.NIf.dec_ ?_ | refine V.a4 ?_ | refine V.a5 ?_ | refine V.NIf.mk (fun _ => ?_) (fun _ => ?_) | refine V.a7 ?_ | refine V.a8 ?_ | refine V.a9 ?_ | refine V.NBoth.mk ?_ ?_ | refine V.b1 ?_ | refine V.b2 ?_ | refine V.NTF.dec ?_ | refine V.b3 ?_ | refine V.b4 ?_ | (refine V.NDraw.any (by kernel_rfl) ?_) | fail)
  all_goals (conv => whnf)
  · exact V.fin1 (l2 (by omega))
  refine V.NLoop.auto (fun (k : Nat) => [(10, .one (.val (.int .i64 k)))]) (fun (k : Nat) => []) [] [] (fun (k : Nat) => l.length - k) (fun (k : Nat) => k ≤ l.length ∧ ∀ j, j < k → Bk.eAt l j = 0) 0 ⟨Nat.zero_le _, fun u h => absurd h (Nat.not_lt_zero _)⟩ V.S_ V.S_ (fun _ => ⟨rfl, rfl⟩) ?_; (conv => whnf); refine ⟨⟨rfl, rfl⟩, ?_⟩
  rintro k ⟨hk, hJ⟩
  by_cases hlt : k < l.length
  · have hA : Bk.eAt l k ≠ 0 → Bk.lines l = Bk.eAt l k := fun h => by
      have := Ca.fe_get hlt hJ h
      rw [lf (by omega) (by omega), this]
    have e1 : ¬ Bk.Right (l.getD k default) → Bk.eAt l k = 3 := fun h => if_pos h
    have e2 : Bk.Right (l.getD k default) → 0 < k → Bk.lx (l.getD (k - 1) default) (l.getD k default) = false → Bk.eAt l k = 4 := fun h1 h2 h3 => (if_neg (fun z => z h1)).trans (if_pos ⟨h2, h3⟩)
    have e3 : Bk.Right (l.getD k default) → (0 < k → Bk.lx (l.getD (k - 1) default) (l.getD k default) = true) → Bk.eAt l k = 0 := fun h1 h2 => (if_neg (fun z => z h1)).trans (if_neg (fun z => by have := h2 z.1; rw [z.2] at this; cases this))
    have c1 := v_bkRight (l.getD k default)
    have c2 := v_order (l.getD (k - 1) default) (l.getD k default)
    have og := order_ge (l.getD (k - 1) default) (l.getD k default)
    have ol : ¬ 0 ≤ orI (cmpI (l.getD (k - 1) default).ac (l.getD k default).ac) (cmpI (l.getD (k - 1) default).ut (l.getD k default).ut) → Bk.lx (l.getD (k - 1) default) (l.getD k default) = true := fun h => by
      cases q : Bk.lx (l.getD (k - 1) default) (l.getD k default)
      · exact absurd (og.2 q) h
      · rfl
    generalize orI (cmpI (l.getD (k - 1) default).ac (l.getD k default).ac) (cmpI (l.getD (k - 1) default).ut (l.getD k default).ut) = oo at *
    repeat' ((conv => whnf); first | refine V.NCond.mk ?_ | refine V.NPick.l ?_ | refine V.NIf.not_ ?_ | refine V.NIf.dec_ ?_ | refine V.a4 ?_ | refine V.a5 ?_ | refine V.NIf.mk (fun _ => ?_) (fun _ => ?_) | refine V.a7 ?_ | refine V.a8 ?_ | refine V.a9 ?_ | refine V.NBoth.mk ?_ ?_ | refine V.b1 ?_ | refine V.b2 ?_ | refine V.NTF.dec ?_ | refine V.b3 ?_ | refine V.b4 ?_ | (refine NIdx.mk ⟨k, rfl, by omega, ?_⟩) | (refine NIdx.mk ⟨k - 1, by omega, by omega, ?_⟩) | (first | refine V.Fn.k0 (c1) rfl ?_ | refine V.Fn.q0 (c1) rfl ?_ | refine V.Fn.a0 (c1) rfl ?_) | (first | refine V.Fn.k0 (c2) rfl ?_ | refine V.Fn.q0 (c2) rfl ?_ | refine V.Fn.a0 (c2) rfl ?_) | (refine V.NDraw.any (by kernel_rfl) ?_) | fail)
    all_goals (conv => whnf)
    · have e := e2 (by assumption) (by omega) (og.1 (by assumption))
      exact V.fin1 ((hA (by omega)).trans e)
    · exact V.NBack.at_ (k + 1) [] ⟨by omega, fun j hj => (show j < k ∨ j = k by omega).elim (hJ j) (fun e => by rw [e]; exact e3 (by assumption) fun _ => ol (by assumption))⟩ (by omega) V.S_ rfl V.S_ V.S_ V.S_
    · exact V.NBack.at_ (k + 1) [] ⟨by omega, fun j hj => (show j < k ∨ j = k by omega).elim (hJ j) (fun e => by rw [e]; exact e3 (by assumption) fun _ => by omega)⟩ (by omega) V.S_ rfl V.S_ V.S_ V.S_
    · have e := e1 (by assumption)
      exact V.fin1 ((hA (by omega)).trans e)
  · obtain rfl : k = l.length := by omega
    have f0 := Ca.fe_end hJ
    have le := le (by omega) f0
    repeat' ((conv => whnf); first | refine V.NCond.mk ?_ | refine V.NPick.l ?_ | refine V.NIf.not_ ?_ | refine V.NIf.dec_ ?_ | refine V.a4 ?_ | refine V.a5 ?_ | refine V.NIf.mk (fun _ => ?_) (fun _ => ?_) | refine V.a7 ?_ | refine V.a8 ?_ | refine V.a9 ?_ | refine V.NBoth.mk ?_ ?_ | refine V.b1 ?_ | refine V.b2 ?_ | refine V.NTF.dec ?_ | refine V.b3 ?_ | refine V.b4 ?_ | ((first | refine V.Fn.k (ce (lq (by omega) f0)) [0] rfl ?_ ?_ | refine V.Fn.q (ce (lq (by omega) f0)) [0] rfl ?_ ?_ | refine V.Fn.a (ce (lq (by omega) f0)) [0] rfl ?_ ?_); · exact V.D_) | (refine V.NDraw.any (by kernel_rfl) ?_) | fail)
    all_goals (conv => whnf)
    · exact V.fin1 (le.trans (if_pos (by assumption)))
    · exact V.fin1 (le.trans (if_neg (by assumption)))
end Go.Proofs.YtpanlcnoopmchaaGreat

namespace Go.Proofs.YtpanlcnoopmchaaGreat
open Go Go.RowKit V
set_option maxHeartbeats 4000000
theorem po_info : ∃ i z, Tryz.prog.info? 65 = some i ∧ i.zero = some z ∧ i.size = 3 ∧ i.bytes = 24 ∧ z.cells.size = 3 := by
  obtain ⟨ty, i, d, z, ht, hi, hd, hz, e, h⟩ := fnd_ty V.Tok (t := 65) (K := fun ty => ty.size = 3 ∧ ty.bytes = 24 ∧ ty.zero.length = 3) (by (conv => whnf); exact ⟨rfl, rfl, rfl⟩)
  subst e
  exact ⟨i, z, hi, hz, h.1, h.2.1, by simpa using h.2.2⟩
theorem grow_any (n : Nat) (h : 1 ≤ n ∧ n ≤ 100000) (w : World) : Calls Tryz.prog 164 #[.slice none 0 0, .int .i64 n] w fun e w' => ∃ c cur, e = .returned (.slice (some ⟨w.heap.size, 0, none⟩) 0 c) ∧ 0 < c ∧ c ≤ maxLen ∧ cur.size = c * 3 ∧ w'.heap[w.heap.size]? = some (.cells cur 65 (0, 0)) ∧ Below w.heap.size w w' := by
  obtain ⟨i, z, hi, hz, hs, hb, hzc⟩ := po_info
  have hrz : ∀ ty, (Builtin.append_ #[29, 3] ty #[.slice none 0 0, .int .i64 ((n : Nat) : Int)]).run Tryz.prog w = .ok (.slice (some ⟨w.heap.size, 0, none⟩) n (grownCap w n 0 65)) (w.drew.alloc (.cells (#[] ++ Builtin.zeroCells z.cells n ++ Builtin.zeroCells z.cells (grownCap w n 0 65 - n)) 65)) := fun ty => by
    have q := Lib.run_append_grow_zeros w 29 3 ty 65 i z .i64 .i64 Tryz.underlying29 Tryz.underlying3 hi hz none 0 0 [] (run_firstCells_none w.drew i.size 0 0 0) n (by omega) (by omega) (by omega) (by omega) (by rw [hb]; omega) (growslice_fits (by omega) (by rw [hb]; omega))
    rw [Nat.zero_add] at q
    exact q
  have hG := grownCap_ge w n 0 65
  have hG2 := grownCap_le_maxLen w n 0 65 (by unfold maxLen; omega)
  generalize grownCap w n 0 65 = G at *
  have hX : (#[] ++ Builtin.zeroCells z.cells n ++ Builtin.zeroCells z.cells (G - n)).size = G * 3 := by
    simp only [Array.size_append, size_zeroCells, hzc, Array.size_empty]
    have : G = n + (G - n) := by omega
    omega
  generalize #[] ++ Builtin.zeroCells z.cells n ++ Builtin.zeroCells z.cells (G - n) = X at *
  clear hzc hz hi hs hb
  have h1 : ¬ ((n : Int) < 0) := by omega
  have h2 : wrap64 ((0 : Int) - (0 : Int)) = 0 := by unfold wrap64; omega
  have h3 : wrap64 ((n : Int) - 0) = (n : Int) := by unfold wrap64; omega
  have h4 : (n : Int) > 0 := by omega
  go_enter Tryz.func164, Tryz.ntmps164
  go_wp2_with (at_builtin; refine Lib.wpList_append_run _ rfl _ _ _ _ rfl _ _ rfl rfl _ _ (hrz _) ?_)
  go_ret
  exact ⟨G, rfl, by omega, hG2, X, hX, heap_alloc_new _ _, ((Below.refl _ _).alloc (Nat.le_refl _) _).drew⟩
theorem v_grow (n : Nat) (h : 1 ≤ n ∧ n ≤ 100000) : V.FnR Tryz.prog 164 [] [.one (.val (.slice none 0 0)), .one (.val (.int .i64 ((n : Int))))] (.one (.ref 0)) [.row 65 3 0 (fun _ => [])] :=
  ⟨by kernel_rfl, rfl, rfl, fun w ρ xs _ hs => by
    obtain ⟨_, _, rfl, h1, _, _, rfl, h2, h3⟩ := hs
    have e1 : _ = Value.slice none 0 0 := h1
    have e2 : _ = Value.int .i64 n := h2
    have e3 : _ = [] := h3
    subst e1 e2 e3
    refine (grow_any n h w).mono ?_
    rintro e w' ⟨c, cur, rfl, h0, h1, h2, h3, h4⟩
    refine ⟨fun i => if i = 0 then some (.slice (some ⟨w.heap.size, 0, none⟩) 0 c) else none, _, rfl, ?_, ⟨?_, ?_⟩, h4⟩
    · exact ⟨rfl, rfl⟩
    · intro j o hj
      match j, hj with
      | 0, hj =>
        injection hj with hj
        subst hj
        refine ⟨⟨_, rfl, _, c, rfl, by omega, fun k hk => by omega, .inr ⟨_, cur, rfl, Nat.le_refl _, h3, by omega, h0, h1, h2, by simp [flat]⟩⟩, fun b hb => ?_⟩
        match c, h0 with
        | c + 1, _ =>
          have hb : some w.heap.size = some b := hb
          injection hb with hb
          omega
      | j + 1, hj => cases hj
    · intro j k o o' b hj hk hne
      match j, k, hj, hk with
      | 0, 0, _, _ => exact absurd rfl hne
      | 0, k + 1, _, hk => cases hk
      | j + 1, _, hj, _ => cases hj⟩
end Go.Proofs.YtpanlcnoopmchaaGreat

namespace Go.Proofs.YtpanlcnoopmchaaGreat.V
open Go Go.RowKit
theorem NApp.to_ {α : Type} [Inhabited α] {en : α → List Value} {n m : Nat} (l' : List α) {get news : Nat → List Value} {bytes : Nat} {K : Nat → (Nat → List Value) → Prop} (h : n + m = l'.length) (hb : l'.length ≤ 9223372036854775807) (hr : l'.length * bytes ≤ 140737488355328) (h1 : ∀ k, k < n → ga en l' k = get k) (h2 : ∀ k, k < m → ga en l' (n + k) = news k) (hK : K l'.length (ga en l')) : NApp n m get news bytes K :=
  ⟨⟨_, _, h.symm, hb, hr, h1, h2, hK⟩⟩
theorem ga_take {α : Type} [Inhabited α] {en : α → List Value} {l : List α} {i k : Nat} (h : k < i) (hl : i ≤ l.length) : ga en (l.take i) k = ga en l k := by
  rw [ga_at (by rw [List.length_take]; omega), ga_at (by omega), List.getElem_take]
theorem ga_left {α : Type} [Inhabited α] {en : α → List Value} {l r : List α} {k : Nat} (h : k < l.length) : ga en (l ++ r) k = ga en l k := by
  rw [ga_at (by simp; omega), ga_at h, List.getElem_append_left h]
theorem ga_right {α : Type} [Inhabited α] {en : α → List Value} {l r : List α} {n k : Nat} (hn : n = l.length) (h : k < r.length) : ga en (l ++ r) (n + k) = ga en r k := by
  subst hn
  rw [ga_at (by simp; omega), ga_at h, List.getElem_append_right (by omega)]
  congr 2
  omega
end Go.Proofs.YtpanlcnoopmchaaGreat.V

namespace Go.Proofs.YtpanlcnoopmchaaGreat
namespace Bk
def kap (S : List Po) (i : Nat) : Nat := if i < S.length then key (S.getD i default) else 2121
def seg (S : List Po) (i j : Nat) : List Int := ((S.drop i).take (j - i)).map (·.am)
theorem seg_0 (S : List Po) (i : Nat) : seg S i i = [] := by simp [seg]
theorem seg_succ {S : List Po} {i j : Nat} (h : i ≤ j) (hj : j < S.length) : seg S i (j + 1) = seg S i j ++ [(S.getD j default).am] := by
  unfold seg
  rw [show j + 1 - i = (j - i) + 1 by omega, List.take_succ_eq_append_getElem (by rw [List.length_drop]; omega), List.map_append, getD_at hj]
  simp [List.getElem_drop, show i + (j - i) = j by omega]
theorem seg_amt {S : List Po} (h : ∀ p ∈ S, Right p) (i j : Nat) : ∀ a ∈ seg S i j, M.Amt a := fun a ha => by
  obtain ⟨p, hp, rfl⟩ := List.mem_map.1 ha
  exact (h p (List.mem_of_mem_drop (List.mem_of_mem_take hp))).2.1
theorem seg_len (S : List Po) (i j : Nat) : (seg S i j).length ≤ S.length := by
  unfold seg
  simp
  omega
def Sd (S : List Po) : Prop := ∀ i j, i < j → j < S.length → key (S.getD i default) ≤ key (S.getD j default)
theorem sd_of {S : List Po} (r : ∀ p ∈ S, Right p) (h : S.Pairwise fun p q => lx q p = false) : Sd S := fun i j hij hj => by
  have q := List.pairwise_iff_getElem.1 h i j (by omega) hj hij
  rw [← getD_at (show i < S.length by omega), ← getD_at hj] at q
  refine Classical.byContradiction fun z => ?_
  rw [(key_lx (r _ (getD_mem hj)) (r _ (getD_mem (by omega)))).2 (by omega)] at q
  cases q
theorem mem_at {S : List Po} {p : Po} (h : p ∈ S) : ∃ m, m < S.length ∧ S.getD m default = p := by
  obtain ⟨m, hm, e⟩ := List.getElem_of_mem h
  exact ⟨m, hm, by rw [getD_at hm]; exact e⟩
theorem amk_none {l : List Po} {k : Nat} (h : ∀ p ∈ l, key p ≠ k) : amk l k = [] := by
  unfold amk
  rw [List.filter_eq_nil_iff.2 fun p hp => by simpa using h p hp]
  rfl
theorem amk_all {l : List Po} {k : Nat} (h : ∀ p ∈ l, key p = k) : amk l k = l.map (·.am) := by
  unfold amk
  rw [List.filter_eq_self.2 fun p hp => by simpa using h p hp]
theorem kap_lt {S : List Po} (r : ∀ p ∈ S, Right p) (i : Nat) : kap S i ≤ 2121 := by
  unfold kap
  split
  · have := (key_r (r _ (getD_mem (by assumption)))).1; omega
  · exact Nat.le_refl _
theorem kap_le {S : List Po} (r : ∀ p ∈ S, Right p) (s : Sd S) {i m : Nat} (h : i ≤ m) (hm : m < S.length) : kap S i ≤ key (S.getD m default) := by
  unfold kap
  rw [if_pos (by omega)]
  by_cases e : i = m
  · rw [e]; exact Nat.le_refl _
  · exact s i m (by omega) hm
theorem kap_0 {S : List Po} (r : ∀ p ∈ S, Right p) (s : Sd S) (k : Nat) (h : k < kap S 0) : tot S k = 0 := tot_none fun p hp e => by
  obtain ⟨m, hm, rfl⟩ := mem_at hp
  have := kap_le r s (Nat.zero_le m) hm
  omega
structure Grp (S : List Po) (i j : Nat) : Prop where
  hi : i < S.length
  hj : i ≤ j ∧ j ≤ S.length
  b : ∀ m, m < i → key (S.getD m default) < kap S i
  e : ∀ m, i ≤ m → m < j → key (S.getD m default) = kap S i
  n : j < S.length → key (S.getD j default) ≠ kap S i
theorem Grp.gt {S : List Po} {i j : Nat} (g : Grp S i j) (r : ∀ p ∈ S, Right p) (s : Sd S) : kap S i < kap S j := by
  obtain ⟨hi, hj, _, _, n⟩ := g
  have ki : kap S i < 2121 := by
    have := (key_r (r _ (getD_mem hi))).1
    unfold kap
    rw [if_pos hi]
    exact this
  by_cases h : j < S.length
  · have := kap_le r s hj.1 h
    have n := n h
    have : kap S j = key (S.getD j default) := if_pos h
    omega
  · have : kap S j = 2121 := if_neg h
    omega
theorem Grp.next {S : List Po} {i j : Nat} (g : Grp S i j) (r : ∀ p ∈ S, Right p) (s : Sd S) (m : Nat) (hm : m < j) : key (S.getD m default) < kap S j := by
  have := g.gt r s
  by_cases h : m < i
  · have := g.b m h; omega
  · have := g.e m (by omega) hm; omega
theorem Grp.skip {S : List Po} {i j : Nat} (g : Grp S i j) (r : ∀ p ∈ S, Right p) (s : Sd S) (k : Nat) (h1 : kap S i + 1 ≤ k) (h2 : k < kap S j) : tot S k = 0 := tot_none fun p hp e => by
  obtain ⟨m, hm, rfl⟩ := mem_at hp
  by_cases h : m < i
  · have := g.b m h; omega
  · by_cases h' : m < j
    · have := g.e m (by omega) h'; omega
    · have := kap_le r s (show j ≤ m by omega) hm; omega
theorem Grp.sum {S : List Po} {i j : Nat} (g : Grp S i j) (r : ∀ p ∈ S, Right p) (s : Sd S) : tot S (kap S i) = M.sum (seg S i j) := by
  have e : S = S.take i ++ ((S.drop i).take (j - i) ++ S.drop j) := by
    have h1 : S.drop j = (S.drop i).drop (j - i) := by rw [List.drop_drop, show i + (j - i) = j by have := g.hj; omega]
    rw [h1, List.take_append_drop, List.take_append_drop]
  have s1 : amk (S.take i) (kap S i) = [] := amk_none fun p hp q => by
    obtain ⟨m, hm, rfl⟩ := List.getElem_of_mem hp
    rw [List.length_take] at hm
    rw [List.getElem_take] at q
    have := g.b m (by omega)
    rw [getD_at (by omega)] at this
    omega
  have s2 : amk ((S.drop i).take (j - i)) (kap S i) = seg S i j := amk_all fun p hp => by
    obtain ⟨m, hm, rfl⟩ := List.getElem_of_mem hp
    rw [List.length_take, List.length_drop] at hm
    rw [List.getElem_take, List.getElem_drop]
    have := g.e (i + m) (by omega) (by omega)
    rwa [getD_at (by omega)] at this
  have s3 : amk (S.drop j) (kap S i) = [] := amk_none fun p hp q => by
    obtain ⟨m, hm, rfl⟩ := List.getElem_of_mem hp
    rw [List.length_drop] at hm
    rw [List.getElem_drop] at q
    have k1 := kap_le r s (show j ≤ j + m by omega) (show j + m < S.length by omega)
    rw [getD_at (show j + m < S.length by omega)] at k1
    have := g.gt r s
    omega
  unfold tot
  rw [show amk S (kap S i) = amk (S.take i ++ ((S.drop i).take (j - i) ++ S.drop j)) (kap S i) from congrArg (fun l => amk l (kap S i)) e, amk_app, amk_app, s1, s2, s3]
  simp
theorem Grp.out {S : List Po} {i j : Nat} (g : Grp S i j) (r : ∀ p ∈ S, Right p) (s : Sd S) : out (tot S) (kap S j) = out (tot S) (kap S i) ++ if tot S (kap S i) = 0 then [] else [⟨(S.getD i default).ac, (S.getD i default).ut, tot S (kap S i)⟩] := by
  have k := g.gt r s
  rw [out_skip (tot S) (m := kap S i + 1) (n := kap S j) (by omega) (fun q h1 h2 => g.skip r s q h1 h2), out_succ]
  have ki : kap S i = key (S.getD i default) := if_pos g.hi
  obtain ⟨_, k2, k3⟩ := key_r (r _ (getD_mem g.hi))
  rw [← ki] at k2 k3
  rw [← k2, ← k3]
theorem kap_end {S : List Po} : kap S S.length = 2121 := if_neg (Nat.lt_irrefl _)
theorem grp_amt {S : List Po} {i j : Nat} (g : Grp S i j) (r : ∀ p ∈ S, Right p) (s : Sd S) (h : ∀ k, k < kap S i → M.Amt (tot S k)) (h1 : M.Amt (tot S (kap S i))) (k : Nat) (hk : k < kap S j) : M.Amt (tot S k) := by
  by_cases e1 : k < kap S i
  · exact h k e1
  · by_cases e2 : k = kap S i
    · rw [e2]; exact h1
    · rw [g.skip r s k (by omega) hk]; unfold M.Amt; omega
end Bk
end Go.Proofs.YtpanlcnoopmchaaGreat
