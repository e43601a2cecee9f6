/- What the functions on what papers bring answer. -/
import Derived.Test.YteblbhbfdfifpaaVPrice
import Derived.Test.YteblbhbfdfifpaaVFailL
import Derived.Test.YteblbhbfdfifpaaClaimPl
import Derived.Test.YteblbhbfdfifpaaVRange
namespace Go.Proofs.Yteblbhbfdfifpaa
open Go Go.RowKit V
set_option maxRecDepth 100000
set_option linter.unusedVariables false
theorem v_clwithin (n a b : Int) : V.Fn Try.prog 41 [] [.one (.val (.int .i64 n)), .one (.val (.int .i64 a)), .one (.val (.int .i64 b))] (.bool (decide (a ≤ n ∧ n ≤ b))) := by
  refine V.Fn.mk_ V.Tok V.mixed Try.func41 rfl Try.ntmps41 (by kernel_rfl) rfl rfl ?_
  repeat' ((conv => whnf); first | refine V.NCond.mk ?_ | refine V.NIf.not_ ?_ | refine V.NIf.dec_ ?_ | refine V.NIf.no (by omega) ?_ | refine V.NIf.yes (by omega) ?_ | refine V.NIf.mk (fun _ => ?_) (fun _ => ?_) | refine V.NWrap.ok (by omega) (by omega) ?_ | refine V.NWrap.u64 (by omega) (by omega) ?_ | refine V.NLt.mk (by omega) ?_ | refine V.NBoth.mk ?_ ?_ | refine V.NTF.yes (by omega) ?_ | refine V.NTF.no (by omega) ?_ | refine V.NTF.dec ?_ | refine V.NDraw.q (by exact rfl) (by kernel_rfl) ?_ | refine V.NApp.one (by first | omega | (simp; omega)) (by first | omega | (simp; omega)) ?_ | (refine V.NDraw.any (by kernel_rfl) ?_) | fail)
  · exact ⟨_, rfl, by simp_all⟩
  · exact congrArg Value.bool (by simp_all; omega)
theorem v_clCheck (v : Ev) : V.Fn Try.prog 18 [] [.agg [.val (.int .i64 v.pa), .val (.int .i64 v.ca), .val (.int .i64 v.gi), .val (.int .i64 v.fo)]] (.int .i64 (C.ev v)) := by
  have h1 := @C.ev_1 v
  have h2 := @C.ev_2 v
  have h3 := @C.ev_3 v
  have p : (P.chk v.ca = 0 ∧ (0 ≤ v.ca ∧ v.ca ≤ 1099511627776)) ∨ (P.chk v.ca = 3 ∧ ¬ (0 ≤ v.ca ∧ v.ca ≤ 1099511627776)) := (Classical.em (P.Ok v.ca)).imp (fun q => ⟨P.chk_yes q, q⟩) (fun q => ⟨P.chk_no q, q⟩)
  unfold C.Ok P.Ok at *
  unfold C.Odd at *
  refine V.Fn.mk_ V.Tok V.mixed Try.func18 rfl Try.ntmps18 (by kernel_rfl) rfl rfl ?_
  repeat' ((conv => whnf); first | refine V.NCond.mk ?_ | refine V.NIf.not_ ?_ | refine V.NIf.dec_ ?_ | refine V.NIf.no (by omega) ?_ | refine V.NIf.yes (by omega) ?_ | refine V.NIf.mk (fun _ => ?_) (fun _ => ?_) | refine V.NWrap.ok (by omega) (by omega) ?_ | refine V.NWrap.u64 (by omega) (by omega) ?_ | refine V.NLt.mk (by omega) ?_ | refine V.NBoth.mk ?_ ?_ | refine V.NTF.yes (by omega) ?_ | refine V.NTF.no (by omega) ?_ | refine V.NTF.dec ?_ | refine V.NDraw.q (by exact rfl) (by kernel_rfl) ?_ | refine V.NApp.one (by first | omega | (simp; omega)) (by first | omega | (simp; omega)) ?_ | (first | refine V.Fn.k0 (v_clwithin _ _ _) rfl ?_ | refine V.Fn.q0 (v_clwithin _ _ _) rfl ?_ | refine V.Fn.a0 (v_clwithin _ _ _) rfl ?_) | (first | refine V.Fn.k0 (v_pcheck _) rfl ?_ | refine V.Fn.q0 (v_pcheck _) rfl ?_ | refine V.Fn.a0 (v_pcheck _) rfl ?_) | (refine V.NDraw.any (by kernel_rfl) ?_) | fail)
  all_goals (conv => whnf)
  all_goals first
    | exact V.fin1 (h1 (by omega))
    | exact V.fin1 (h2 (by omega) (by omega))
    | exact V.fin1 (h3 (by omega) (by omega))
theorem v_rclCheck (v : Ev) : V.Fn Try.prog 19 [] [.agg [.val (.int .i64 v.pa), .val (.int .i64 v.ca), .val (.int .i64 v.gi), .val (.int .i64 v.fo)]] (.int .i64 (C.ev v)) := by
  have h1 := @C.ev_1 v
  have h2 := @C.ev_2 v
  have h3 := @C.ev_3 v
  have p : (P.chk v.ca = 0 ∧ (0 ≤ v.ca ∧ v.ca ≤ 1099511627776)) ∨ (P.chk v.ca = 3 ∧ ¬ (0 ≤ v.ca ∧ v.ca ≤ 1099511627776)) := (Classical.em (P.Ok v.ca)).imp (fun q => ⟨P.chk_yes q, q⟩) (fun q => ⟨P.chk_no q, q⟩)
  unfold C.Ok P.Ok at *
  unfold C.Odd at *
  refine V.Fn.mk_ V.Tok V.mixed Try.func19 rfl Try.ntmps19 (by kernel_rfl) rfl rfl ?_
  repeat' ((conv => whnf); first | refine V.NCond.mk ?_ | refine V.NIf.not_ ?_ | refine V.NIf.dec_ ?_ | refine V.NIf.no (by omega) ?_ | refine V.NIf.yes (by omega) ?_ | refine V.NIf.mk (fun _ => ?_) (fun _ => ?_) | refine V.NWrap.ok (by omega) (by omega) ?_ | refine V.NWrap.u64 (by omega) (by omega) ?_ | refine V.NLt.mk (by omega) ?_ | refine V.NBoth.mk ?_ ?_ | refine V.NTF.yes (by omega) ?_ | refine V.NTF.no (by omega) ?_ | refine V.NTF.dec ?_ | refine V.NDraw.q (by exact rfl) (by kernel_rfl) ?_ | refine V.NApp.one (by first | omega | (simp; omega)) (by first | omega | (simp; omega)) ?_ | (first | refine V.Fn.k0 (v_rbetween _ _ _) rfl ?_ | refine V.Fn.q0 (v_rbetween _ _ _) rfl ?_ | refine V.Fn.a0 (v_rbetween _ _ _) rfl ?_) | (first | refine V.Fn.k0 (v_rpcheck _) rfl ?_ | refine V.Fn.q0 (v_rpcheck _) rfl ?_ | refine V.Fn.a0 (v_rpcheck _) rfl ?_) | (refine V.NDraw.any (by kernel_rfl) ?_) | fail)
  all_goals (conv => whnf)
  all_goals first
    | exact V.fin1 (h1 (by omega))
    | exact V.fin1 (h2 (by omega) (by omega))
    | exact V.fin1 (h3 (by omega) (by omega))
theorem v_clcheck (v : Ev) (u : Int) : V.Fn Try.prog 28 [] [.agg [.val (.int .i64 v.pa), .val (.int .i64 v.ca), .val (.int .i64 v.gi), .val (.int .i64 v.fo)], .one (.val (.int .i64 u))] (.int .i64 (C.uE v u)) := by
  have h1 := @C.uE_1 v u
  have h2 := @C.uE_2 v u
  have h3 := @C.uE_3 v u
  refine V.Fn.mk_ V.Tok V.mixed Try.func28 rfl Try.ntmps28 (by kernel_rfl) rfl rfl ?_
  repeat' ((conv => whnf); first | refine V.NCond.mk ?_ | refine V.NIf.not_ ?_ | refine V.NIf.dec_ ?_ | refine V.NIf.no (by omega) ?_ | refine V.NIf.yes (by omega) ?_ | refine V.NIf.mk (fun _ => ?_) (fun _ => ?_) | refine V.NWrap.ok (by omega) (by omega) ?_ | refine V.NWrap.u64 (by omega) (by omega) ?_ | refine V.NLt.mk (by omega) ?_ | refine V.NBoth.mk ?_ ?_ | refine V.NTF.yes (by omega) ?_ | refine V.NTF.no (by omega) ?_ | refine V.NTF.dec ?_ | refine V.NDraw.q (by exact rfl) (by kernel_rfl) ?_ | refine V.NApp.one (by first | omega | (simp; omega)) (by first | omega | (simp; omega)) ?_ | (first | refine V.Fn.k0 (v_clCheck _) rfl ?_ | refine V.Fn.q0 (v_clCheck _) rfl ?_ | refine V.Fn.a0 (v_clCheck _) rfl ?_) | (first | refine V.Fn.k0 (v_clwithin _ _ _) rfl ?_ | refine V.Fn.q0 (v_clwithin _ _ _) rfl ?_ | refine V.Fn.a0 (v_clwithin _ _ _) rfl ?_) | (refine V.NDraw.any (by kernel_rfl) ?_) | fail)
  all_goals (conv => whnf)
  all_goals first
    | exact V.fin1 (h1 (by omega))
    | exact V.fin1 (h2 (by omega) (by omega))
    | exact V.fin1 (by omega)
theorem v_rclcheck (v : Ev) (u : Int) : V.Fn Try.prog 12 [] [.agg [.val (.int .i64 v.pa), .val (.int .i64 v.ca), .val (.int .i64 v.gi), .val (.int .i64 v.fo)], .one (.val (.int .i64 u))] (.int .i64 (C.uE v u)) := by
  have h1 := @C.uE_1 v u
  have h2 := @C.uE_2 v u
  have h3 := @C.uE_3 v u
  refine V.Fn.mk_ V.Tok V.mixed Try.func12 rfl Try.ntmps12 (by kernel_rfl) rfl rfl ?_
  repeat' ((conv => whnf); first | refine V.NCond.mk ?_ | refine V.NIf.not_ ?_ | refine V.NIf.dec_ ?_ | refine V.NIf.no (by omega) ?_ | refine V.NIf.yes (by omega) ?_ | refine V.NIf.mk (fun _ => ?_) (fun _ => ?_) | refine V.NWrap.ok (by omega) (by omega) ?_ | refine V.NWrap.u64 (by omega) (by omega) ?_ | refine V.NLt.mk (by omega) ?_ | refine V.NBoth.mk ?_ ?_ | refine V.NTF.yes (by omega) ?_ | refine V.NTF.no (by omega) ?_ | refine V.NTF.dec ?_ | refine V.NDraw.q (by exact rfl) (by kernel_rfl) ?_ | refine V.NApp.one (by first | omega | (simp; omega)) (by first | omega | (simp; omega)) ?_ | (first | refine V.Fn.k0 (v_rclCheck _) rfl ?_ | refine V.Fn.q0 (v_rclCheck _) rfl ?_ | refine V.Fn.a0 (v_rclCheck _) rfl ?_) | (first | refine V.Fn.k0 (v_rbetween _ _ _) rfl ?_ | refine V.Fn.q0 (v_rbetween _ _ _) rfl ?_ | refine V.Fn.a0 (v_rbetween _ _ _) rfl ?_) | (refine V.NDraw.any (by kernel_rfl) ?_) | fail)
  all_goals (conv => whnf)
  all_goals first
    | exact V.fin1 (h1 (by omega))
    | exact V.fin1 (h2 (by omega) (by omega))
    | exact V.fin1 (by omega)
theorem v_clcash (v : Ev) (u : Int) (h : C.Ok v) (hu : 0 ≤ u ∧ u ≤ 1073741824) : V.Fn Try.prog 29 [] [.agg [.val (.int .i64 v.pa), .val (.int .i64 v.ca), .val (.int .i64 v.gi), .val (.int .i64 v.fo)], .one (.val (.int .i64 u))] (.int .i64 (C.cash v u)) := by
  have vc := v_cost u v.ca
  obtain ⟨e1, e2⟩ := P.part_cost hu h.2.1
  rw [e1, e2] at vc
  refine V.Fn.mk_ V.Tok V.mixed Try.func29 rfl Try.ntmps29 (by kernel_rfl) rfl rfl ?_
  repeat' ((conv => whnf); first | refine V.NCond.mk ?_ | refine V.NIf.not_ ?_ | refine V.NIf.dec_ ?_ | refine V.NIf.no (by omega) ?_ | refine V.NIf.yes (by omega) ?_ | refine V.NIf.mk (fun _ => ?_) (fun _ => ?_) | refine V.NWrap.ok (by omega) (by omega) ?_ | refine V.NWrap.u64 (by omega) (by omega) ?_ | refine V.NLt.mk (by omega) ?_ | refine V.NBoth.mk ?_ ?_ | refine V.NTF.yes (by omega) ?_ | refine V.NTF.no (by omega) ?_ | refine V.NTF.dec ?_ | refine V.NDraw.q (by exact rfl) (by kernel_rfl) ?_ | refine V.NApp.one (by first | omega | (simp; omega)) (by first | omega | (simp; omega)) ?_ | (first | refine V.Fn.k0 (vc) rfl ?_ | refine V.Fn.q0 (vc) rfl ?_ | refine V.Fn.a0 (vc) rfl ?_) | (refine V.NDraw.any (by kernel_rfl) ?_) | fail)
  exact rfl
theorem v_rclcash (v : Ev) (u : Int) (h : C.Ok v) (hu : 0 ≤ u ∧ u ≤ 1073741824) : V.Fn Try.prog 13 [] [.agg [.val (.int .i64 v.pa), .val (.int .i64 v.ca), .val (.int .i64 v.gi), .val (.int .i64 v.fo)], .one (.val (.int .i64 u))] (.int .i64 (C.cash v u)) := by
  have vc := v_partOf u v.ca 10000 (by omega) h.2.1 (by omega)
  have c := P.cost_bd hu h.2.1
  have e1 : M.poQ u v.ca 10000 = C.cash v u := if_neg (by unfold P.cost at c; omega)
  rw [e1] at vc
  refine V.Fn.mk_ V.Tok V.mixed Try.func13 rfl Try.ntmps13 (by kernel_rfl) rfl rfl ?_
  repeat' ((conv => whnf); first | refine V.NCond.mk ?_ | refine V.NIf.not_ ?_ | refine V.NIf.dec_ ?_ | refine V.NIf.no (by omega) ?_ | refine V.NIf.yes (by omega) ?_ | refine V.NIf.mk (fun _ => ?_) (fun _ => ?_) | refine V.NWrap.ok (by omega) (by omega) ?_ | refine V.NWrap.u64 (by omega) (by omega) ?_ | refine V.NLt.mk (by omega) ?_ | refine V.NBoth.mk ?_ ?_ | refine V.NTF.yes (by omega) ?_ | refine V.NTF.no (by omega) ?_ | refine V.NTF.dec ?_ | refine V.NDraw.q (by exact rfl) (by kernel_rfl) ?_ | refine V.NApp.one (by first | omega | (simp; omega)) (by first | omega | (simp; omega)) ?_ | (first | refine V.Fn.k0 (vc) rfl ?_ | refine V.Fn.q0 (vc) rfl ?_ | refine V.Fn.a0 (vc) rfl ?_) | (refine V.NDraw.any (by kernel_rfl) ?_) | fail)
  exact rfl
theorem v_clfresh (v : Ev) (u : Int) (h : C.Ok v) (hu : 0 ≤ u ∧ u ≤ 1073741824) : V.Fn Try.prog 30 [] [.agg [.val (.int .i64 v.pa), .val (.int .i64 v.ca), .val (.int .i64 v.gi), .val (.int .i64 v.fo)], .one (.val (.int .i64 u))] (.tuple #[.int .i64 (C.fr v u), .int .i64 (C.le v u)]) := by
  have hm := C.mul_bd h hu
  have h4 := h.2.2.2
  have h5 : v.fo = 0 → C.fr v u = 0 ∧ C.le v u = 0 := fun q => ⟨if_pos q, if_pos q⟩
  have h6 : v.fo ≠ 0 → C.fr v u = u * v.gi / v.fo ∧ C.le v u = u * v.gi % v.fo := fun q => ⟨if_neg q, if_neg q⟩
  refine V.Fn.mk_ V.Tok V.mixed Try.func30 rfl Try.ntmps30 (by kernel_rfl) rfl rfl ?_
  repeat' ((conv => whnf); first | refine V.NCond.mk ?_ | refine V.NIf.not_ ?_ | refine V.NIf.dec_ ?_ | refine V.NIf.no (by omega) ?_ | refine V.NIf.yes (by omega) ?_ | refine V.NIf.mk (fun _ => ?_) (fun _ => ?_) | refine V.NWrap.ok (by omega) (by omega) ?_ | refine V.NWrap.u64 (by omega) (by omega) ?_ | refine V.NLt.mk (by omega) ?_ | refine V.NBoth.mk ?_ ?_ | refine V.NTF.yes (by omega) ?_ | refine V.NTF.no (by omega) ?_ | refine V.NTF.dec ?_ | refine V.NDraw.q (by exact rfl) (by kernel_rfl) ?_ | refine V.NApp.one (by first | omega | (simp; omega)) (by first | omega | (simp; omega)) ?_ | (refine NQuo.pos (by omega) (by omega) (by omega) ?_; intro z hz hz0 hz1) | (refine NRem.pos (by omega) (by omega) ?_; intro r hr hr0 hr1) | (refine V.NDraw.any (by kernel_rfl) ?_) | fail)
  all_goals (conv => whnf)
  · obtain ⟨a, b⟩ := h5 (by assumption)
    exact V.fin2 ⟨a, b⟩
  · obtain ⟨a, b⟩ := h6 (by assumption)
    exact V.fin2 ⟨a.trans hz.symm, b.trans hr.symm⟩
theorem v_rclfresh (v : Ev) (u : Int) (h : C.Ok v) (hu : 0 ≤ u ∧ u ≤ 1073741824) : V.Fn Try.prog 14 [] [.agg [.val (.int .i64 v.pa), .val (.int .i64 v.ca), .val (.int .i64 v.gi), .val (.int .i64 v.fo)], .one (.val (.int .i64 u))] (.tuple #[.int .i64 (C.fr v u), .int .i64 (C.le v u)]) := by
  have h4 := h.2.2.2
  have h3 := h.2.2.1
  have c := C.fr_bd h hu
  have h5 : v.fo = 0 → C.fr v u = 0 ∧ C.le v u = 0 := fun q => ⟨if_pos q, if_pos q⟩
  have h6 : v.fo ≠ 0 → C.fr v u = u * v.gi / v.fo ∧ C.le v u = u * v.gi % v.fo := fun q => ⟨if_neg q, if_neg q⟩
  have vc := fun q => v_partOf u v.gi v.fo (by omega) (by omega) q
  refine V.Fn.mk_ V.Tok V.mixed Try.func14 rfl Try.ntmps14 (by kernel_rfl) rfl rfl ?_
  repeat' ((conv => whnf); first | refine V.NCond.mk ?_ | refine V.NIf.not_ ?_ | refine V.NIf.dec_ ?_ | refine V.NIf.no (by omega) ?_ | refine V.NIf.yes (by omega) ?_ | refine V.NIf.mk (fun _ => ?_) (fun _ => ?_) | refine V.NWrap.ok (by omega) (by omega) ?_ | refine V.NWrap.u64 (by omega) (by omega) ?_ | refine V.NLt.mk (by omega) ?_ | refine V.NBoth.mk ?_ ?_ | refine V.NTF.yes (by omega) ?_ | refine V.NTF.no (by omega) ?_ | refine V.NTF.dec ?_ | refine V.NDraw.q (by exact rfl) (by kernel_rfl) ?_ | refine V.NApp.one (by first | omega | (simp; omega)) (by first | omega | (simp; omega)) ?_ | (first | refine V.Fn.k0 (vc (by omega)) rfl ?_ | refine V.Fn.q0 (vc (by omega)) rfl ?_ | refine V.Fn.a0 (vc (by omega)) rfl ?_) | (refine V.NDraw.any (by kernel_rfl) ?_) | fail)
  all_goals (conv => whnf)
  · obtain ⟨a, b⟩ := h5 (by assumption)
    exact V.fin2 ⟨a, b⟩
  · obtain ⟨a, b⟩ := h6 (by assumption)
    exact V.fin2 ⟨a.trans (if_neg (by omega)).symm, b.trans (if_neg (by omega)).symm⟩
theorem v_clCash (v : Ev) (u : Int) : V.Fn Try.prog 8 [] [.agg [.val (.int .i64 v.pa), .val (.int .i64 v.ca), .val (.int .i64 v.gi), .val (.int .i64 v.fo)], .one (.val (.int .i64 u))] (.tuple #[.int .i64 (C.cV v u), .int .i64 (C.uE v u)]) := by
  have h1 : C.uE v u = 0 → C.Ok v ∧ (0 ≤ u ∧ u ≤ 1073741824) := fun h => ⟨(C.ev_ok (C.uE_ok h).1).1, (C.uE_ok h).2⟩
  refine V.Fn.mk_ V.Tok V.mixed Try.func8 rfl Try.ntmps8 (by kernel_rfl) rfl rfl ?_
  repeat' ((conv => whnf); first | refine V.NCond.mk ?_ | refine V.NIf.not_ ?_ | refine V.NIf.dec_ ?_ | refine V.NIf.no (by omega) ?_ | refine V.NIf.yes (by omega) ?_ | refine V.NIf.mk (fun _ => ?_) (fun _ => ?_) | refine V.NWrap.ok (by omega) (by omega) ?_ | refine V.NWrap.u64 (by omega) (by omega) ?_ | refine V.NLt.mk (by omega) ?_ | refine V.NBoth.mk ?_ ?_ | refine V.NTF.yes (by omega) ?_ | refine V.NTF.no (by omega) ?_ | refine V.NTF.dec ?_ | refine V.NDraw.q (by exact rfl) (by kernel_rfl) ?_ | refine V.NApp.one (by first | omega | (simp; omega)) (by first | omega | (simp; omega)) ?_ | (first | refine V.Fn.k0 (v_clcheck _ _) rfl ?_ | refine V.Fn.q0 (v_clcheck _ _) rfl ?_ | refine V.Fn.a0 (v_clcheck _ _) rfl ?_) | (first | refine V.Fn.k0 (v_clcash v u (h1 (by omega)).1 (h1 (by omega)).2) rfl ?_ | refine V.Fn.q0 (v_clcash v u (h1 (by omega)).1 (h1 (by omega)).2) rfl ?_ | refine V.Fn.a0 (v_clcash v u (h1 (by omega)).1 (h1 (by omega)).2) rfl ?_) | (refine V.NDraw.any (by kernel_rfl) ?_) | fail)
  all_goals (conv => whnf)
  · exact V.fin2 ⟨if_pos (by omega), by omega⟩
  · exact V.fin2 ⟨if_neg (by assumption), rfl⟩
theorem v_clFresh (v : Ev) (u : Int) : V.Fn Try.prog 9 [] [.agg [.val (.int .i64 v.pa), .val (.int .i64 v.ca), .val (.int .i64 v.gi), .val (.int .i64 v.fo)], .one (.val (.int .i64 u))] (.tuple #[.int .i64 (C.fV v u), .int .i64 (C.lV v u), .int .i64 (C.uE v u)]) := by
  have h1 : C.uE v u = 0 → C.Ok v ∧ (0 ≤ u ∧ u ≤ 1073741824) := fun h => ⟨(C.ev_ok (C.uE_ok h).1).1, (C.uE_ok h).2⟩
  refine V.Fn.mk_ V.Tok V.mixed Try.func9 rfl Try.ntmps9 (by kernel_rfl) rfl rfl ?_
  repeat' ((conv => whnf); first | refine V.NCond.mk ?_ | refine V.NIf.not_ ?_ | refine V.NIf.dec_ ?_ | refine V.NIf.no (by omega) ?_ | refine V.NIf.yes (by omega) ?_ | refine V.NIf.mk (fun _ => ?_) (fun _ => ?_) | refine V.NWrap.ok (by omega) (by omega) ?_ | refine V.NWrap.u64 (by omega) (by omega) ?_ | refine V.NLt.mk (by omega) ?_ | refine V.NBoth.mk ?_ ?_ | refine V.NTF.yes (by omega) ?_ | refine V.NTF.no (by omega) ?_ | refine V.NTF.dec ?_ | refine V.NDraw.q (by exact rfl) (by kernel_rfl) ?_ | refine V.NApp.one (by first | omega | (simp; omega)) (by first | omega | (simp; omega)) ?_ | (first | refine V.Fn.k0 (v_clcheck _ _) rfl ?_ | refine V.Fn.q0 (v_clcheck _ _) rfl ?_ | refine V.Fn.a0 (v_clcheck _ _) rfl ?_) | (first | refine V.Fn.k0 (v_clfresh v u (h1 (by omega)).1 (h1 (by omega)).2) rfl ?_ | refine V.Fn.q0 (v_clfresh v u (h1 (by omega)).1 (h1 (by omega)).2) rfl ?_ | refine V.Fn.a0 (v_clfresh v u (h1 (by omega)).1 (h1 (by omega)).2) rfl ?_) | (refine V.NDraw.any (by kernel_rfl) ?_) | fail)
  all_goals (conv => whnf)
  · exact V.fin3 ⟨if_pos (by omega), if_pos (by omega), by omega⟩
  · exact V.fin3 ⟨if_neg (by assumption), if_neg (by assumption), rfl⟩
theorem v_clchecks (v : Ev) (fs : List Fl) : V.Fn Try.prog 31 [.arr 10 fs.length (ga encF fs)] [.agg [.val (.int .i64 v.pa), .val (.int .i64 v.ca), .val (.int .i64 v.gi), .val (.int .i64 v.fo)], .one (.ref 0)] (.int .i64 (C.xE v fs)) := by
  refine V.Fn.mk_ V.Tok V.mixed Try.func31 rfl Try.ntmps31 (by kernel_rfl) rfl rfl ?_
  repeat' ((conv => whnf); first | refine V.NCond.mk ?_ | refine V.NIf.not_ ?_ | refine V.NIf.dec_ ?_ | refine V.NIf.no (by omega) ?_ | refine V.NIf.yes (by omega) ?_ | refine V.NIf.mk (fun _ => ?_) (fun _ => ?_) | refine V.NWrap.ok (by omega) (by omega) ?_ | refine V.NWrap.u64 (by omega) (by omega) ?_ | refine V.NLt.mk (by omega) ?_ | refine V.NBoth.mk ?_ ?_ | refine V.NTF.yes (by omega) ?_ | refine V.NTF.no (by omega) ?_ | refine V.NTF.dec ?_ | refine V.NDraw.q (by exact rfl) (by kernel_rfl) ?_ | refine V.NApp.one (by first | omega | (simp; omega)) (by first | omega | (simp; omega)) ?_ | (first | refine V.Fn.k0 (v_clCheck _) rfl ?_ | refine V.Fn.q0 (v_clCheck _) rfl ?_ | refine V.Fn.a0 (v_clCheck _) rfl ?_) | ((first | refine V.Fn.k (v_fchecks fs) [0] rfl ?_ ?_ | refine V.Fn.q (v_fchecks fs) [0] rfl ?_ ?_ | refine V.Fn.a (v_fchecks fs) [0] rfl ?_ ?_); · ((repeat' (first | exact rfl | exact Iff.rfl | exact trivial | exact (fun _ _ => rfl) | exact (fun _ h => absurd h (Nat.not_lt_zero _)) | refine ⟨?_, ?_⟩ | exact Iff.rfl | exact congrArg (fun z => V.SV.one (V.At.val (Value.int .i64 z))) (by omega))); done)) | (refine V.NDraw.any (by kernel_rfl) ?_) | fail)
  all_goals (conv => whnf)
  · exact V.fin1 (C.xE_2 (by assumption))
  · exact V.fin1 (C.xE_1 (by assumption))
theorem v_moved (a b c d : Int) (hd : 0 ≤ d ∧ d ≤ 1152921504606846976) : V.FnR Try.prog 33 [] [.one (.val (.int .i64 a)), .one (.val (.int .i64 b)), .one (.val (.int .i64 c)), .one (.val (.int .i64 d))] (.one (.ref 0)) [.arr 3 [(⟨a, c, -d⟩ : Po), ⟨b, c, d⟩].length (ga encP [⟨a, c, -d⟩, ⟨b, c, d⟩])] := by
  refine V.FnR.mk_ V.Tok V.mixed Try.func33 rfl Try.ntmps33 (by kernel_rfl) rfl rfl rfl rfl ?_
  repeat' ((conv => whnf); first | refine V.NCond.mk ?_ | refine V.NIf.not_ ?_ | refine V.NIf.dec_ ?_ | refine V.NIf.no (by omega) ?_ | refine V.NIf.yes (by omega) ?_ | refine V.NIf.mk (fun _ => ?_) (fun _ => ?_) | refine V.NWrap.ok (by omega) (by omega) ?_ | refine V.NWrap.u64 (by omega) (by omega) ?_ | refine V.NLt.mk (by omega) ?_ | refine V.NBoth.mk ?_ ?_ | refine V.NTF.yes (by omega) ?_ | refine V.NTF.no (by omega) ?_ | refine V.NTF.dec ?_ | refine V.NDraw.q (by exact rfl) (by kernel_rfl) ?_ | refine V.NApp.one (by first | omega | (simp; omega)) (by first | omega | (simp; omega)) ?_ | (refine V.NDraw.any (by kernel_rfl) ?_) | fail)
  refine NRet.mk_ [some 1] rfl ?_ ?_
  · exact rfl
  · exact ⟨⟨rfl, rfl, by repeat' (first | exact trivial | refine ⟨?_, ?_⟩ | rfl | exact congrArg (Value.int .i64) (show 0 - d = -d by omega))⟩, trivial⟩
set_option maxHeartbeats 4000000 in
theorem v_Claims (v : Ev) (fs : List Fl) : V.FnR Try.prog 10 [.arr 10 fs.length (ga encF fs)] [.agg [.val (.int .i64 v.pa), .val (.int .i64 v.ca), .val (.int .i64 v.gi), .val (.int .i64 v.fo)], .one (.ref 0)] (.tup [.one (.ref 1), .one (.ref 2), .one (.val (.int .i64 (C.xE v fs)))]) [.row 54 3 (C.dV v fs).length (ga encD (C.dV v fs)), .row 56 3 (C.pV v fs).length (ga encP (C.pV v fs))] := by
  refine V.FnR.mk_ V.Tok V.mixed Try.func10 rfl Try.ntmps10 (by kernel_rfl) rfl rfl rfl rfl ?_
  repeat' ((conv => whnf); first | refine V.NCond.mk ?_ | refine V.NIf.not_ ?_ | refine V.NIf.dec_ ?_ | refine V.NIf.no (by omega) ?_ | refine V.NIf.yes (by omega) ?_ | refine V.NIf.mk (fun _ => ?_) (fun _ => ?_) | refine V.NWrap.ok (by omega) (by omega) ?_ | refine V.NWrap.u64 (by omega) (by omega) ?_ | refine V.NLt.mk (by omega) ?_ | refine V.NBoth.mk ?_ ?_ | refine V.NTF.yes (by omega) ?_ | refine V.NTF.no (by omega) ?_ | refine V.NTF.dec ?_ | refine V.NDraw.q (by exact rfl) (by kernel_rfl) ?_ | refine V.NApp.one (by first | omega | (simp; omega)) (by first | omega | (simp; omega)) ?_ | ((first | refine V.Fn.k (v_clchecks v fs) [0] rfl ?_ ?_ | refine V.Fn.q (v_clchecks v fs) [0] rfl ?_ ?_ | refine V.Fn.a (v_clchecks v fs) [0] rfl ?_ ?_); · ((repeat' (first | exact rfl | exact Iff.rfl | exact trivial | exact (fun _ _ => rfl) | exact (fun _ h => absurd h (Nat.not_lt_zero _)) | refine ⟨?_, ?_⟩ | exact Iff.rfl | exact congrArg (fun z => V.SV.one (V.At.val (Value.int .i64 z))) (by omega))); done)) | (refine V.NCall.inl (f := 32) V.Tok V.mixed Try.func32 rfl Try.ntmps32 (by kernel_rfl) rfl ?_) | (refine V.NRange.inl V.Tok V.mixed Try.func60 rfl Try.ntmps60 (by kernel_rfl) [2, 3, 4, 5, 6, 8] [3, 5] ?_; (conv => whnf); refine V.NIs.mk rfl ?_; (conv => whnf); intro L hL) | (refine V.NDraw.any (by kernel_rfl) ?_) | fail)
  all_goals (conv => whnf)
  · have hx : C.xE v fs = 0 := by assumption
    obtain ⟨hv, hF⟩ := C.xE_ok hx
    obtain ⟨n60, hall, _⟩ := K.checks_all hF
    have ok := (C.ev_ok hv).1
    have eD : C.dV v fs = C.dus v fs := if_pos hx
    have eP : C.pV v fs = C.pos v fs := if_pos hx
    refine V.NLoop.auto (fun (k : Nat) => [(9, .one (.val (.int .i64 k)))]) (fun (k : Nat) => [(11, .row 54 3 (C.dus v (fs.take k)).length (ga encD (C.dus v (fs.take k)))), (12, .row 56 3 (C.pos v (fs.take k)).length (ga encP (C.pos v (fs.take k)))), (4, .box 30 [.ref 11]), (6, .box 31 [.ref 12])]) [] [] (fun (k : Nat) => fs.length - k) (fun (k : Nat) => k ≤ fs.length) 0 (Nat.zero_le _) (by repeat' (first | exact rfl | exact Iff.rfl | exact trivial | exact (fun _ _ => rfl) | exact (fun _ h => absurd h (Nat.not_lt_zero _)) | refine ⟨?_, ?_⟩ | exact Iff.rfl | exact congrArg (fun z => V.SV.one (V.At.val (Value.int .i64 z))) (by omega))) (by repeat' (first | exact rfl | exact Iff.rfl | exact trivial | exact (fun _ _ => rfl) | exact (fun _ h => absurd h (Nat.not_lt_zero _)) | refine ⟨?_, ?_⟩ | exact Iff.rfl | exact congrArg (fun z => V.SV.one (V.At.val (Value.int .i64 z))) (by omega))) (fun _ => ⟨rfl, rfl⟩) ?_; (conv => whnf); refine ⟨⟨rfl, rfl⟩, ?_⟩
    rintro k hk
    have ld := C.dus_len v (fs.take k)
    have lp := C.pos_len v (fs.take k)
    rw [List.length_take] at ld lp
    by_cases hlt : k < fs.length
    · have hf := hall _ (getD_mem hlt)
      have hl := K.left_bd hf
      have ed := C.dus_snoc (v := v) hlt
      have ep := C.pos_snoc (v := v) hlt
      have cb := C.cash_bd ok hl
      have fbd := C.fr_bd ok hl
      have d1 : ¬ ((fs.getD k default).pa = v.pa ∧ 0 < F.left (fs.getD k default) ∧ 0 < C.cash v (F.left (fs.getD k default))) → C.duO v (fs.getD k default) = [] := fun q => if_neg q
      have d2 : ((fs.getD k default).pa = v.pa ∧ 0 < F.left (fs.getD k default) ∧ 0 < C.cash v (F.left (fs.getD k default))) → C.duO v (fs.getD k default) = [⟨(fs.getD k default).fr, (fs.getD k default).to, C.cash v (F.left (fs.getD k default))⟩] := fun q => if_pos q
      have p1 : ¬ ((fs.getD k default).pa = v.pa ∧ 0 < F.left (fs.getD k default) ∧ 0 < C.fr v (F.left (fs.getD k default))) → C.poO v (fs.getD k default) = [] := fun q => if_neg q
      have p2 : ((fs.getD k default).pa = v.pa ∧ 0 < F.left (fs.getD k default) ∧ 0 < C.fr v (F.left (fs.getD k default))) → C.poO v (fs.getD k default) = [⟨(fs.getD k default).fr, v.pa, -C.fr v (F.left (fs.getD k default))⟩, ⟨(fs.getD k default).to, v.pa, C.fr v (F.left (fs.getD k default))⟩] := fun q => if_pos q
      repeat' ((conv => whnf); first | (refine NApp.one (en := encD) (l := C.dus v (fs.take k)) (x := ⟨(fs.getD k default).fr, (fs.getD k default).to, C.cash v (F.left (fs.getD k default))⟩) (by simp; omega) (by simp; omega) ?_) | refine V.NCond.mk ?_ | refine V.NIf.not_ ?_ | refine V.NIf.dec_ ?_ | refine V.NIf.no (by omega) ?_ | refine V.NIf.yes (by omega) ?_ | refine V.NIf.mk (fun _ => ?_) (fun _ => ?_) | refine V.NWrap.ok (by omega) (by omega) ?_ | refine V.NWrap.u64 (by omega) (by omega) ?_ | refine V.NLt.mk (by omega) ?_ | refine V.NBoth.mk ?_ ?_ | refine V.NTF.yes (by omega) ?_ | refine V.NTF.no (by omega) ?_ | refine V.NTF.dec ?_ | refine V.NDraw.q (by exact rfl) (by kernel_rfl) ?_ | refine V.NApp.one (by first | omega | (simp; omega)) (by first | omega | (simp; omega)) ?_ | (refine NIdx.mk ⟨k, rfl, by omega, ?_⟩) | (first | refine V.Fn.k0 (v_fleft _ hf) rfl ?_ | refine V.Fn.q0 (v_fleft _ hf) rfl ?_ | refine V.Fn.a0 (v_fleft _ hf) rfl ?_) | (refine V.NYield.mk_ V.Tok V.mixed hL rfl rfl ?_) | (first | refine V.Fn.k0 (v_clcash v _ ok hl) rfl ?_ | refine V.Fn.q0 (v_clcash v _ ok hl) rfl ?_ | refine V.Fn.a0 (v_clcash v _ ok hl) rfl ?_) | (first | refine V.Fn.k0 (v_clfresh v _ ok hl) rfl ?_ | refine V.Fn.q0 (v_clfresh v _ ok hl) rfl ?_ | refine V.Fn.a0 (v_clfresh v _ ok hl) rfl ?_) | (first | refine V.FnR.k0 (v_moved (fs.getD k default).fr (fs.getD k default).to v.pa (C.fr v (F.left (fs.getD k default))) (by omega)) rfl ?_ | refine V.FnR.a0 (v_moved (fs.getD k default).fr (fs.getD k default).to v.pa (C.fr v (F.left (fs.getD k default))) (by omega)) rfl ?_) | (refine NOne.mk ?_ ?_; · (intro k hk; rfl)) | (refine NApp.list (by simp only [List.length_cons, List.length_nil]; omega) (by simp only [List.length_cons, List.length_nil]; omega) ?_) | (refine V.NDraw.any (by kernel_rfl) ?_) | fail)
      all_goals (conv => whnf)
      · refine V.NBack.at_ (k + 1) [(11, 15), (12, 17)] (by omega) (by omega) (by repeat' (first | exact rfl | exact Iff.rfl | exact trivial | exact (fun _ _ => rfl) | exact (fun _ h => absurd h (Nat.not_lt_zero _)) | refine ⟨?_, ?_⟩ | exact Iff.rfl | exact congrArg (fun z => V.SV.one (V.At.val (Value.int .i64 z))) (by omega))) rfl ⟨ObLe.as_ (by rw [ed, d2 (by omega)]), ObLe.as_ (by rw [ep, p2 (by omega)]), rfl, rfl, trivial⟩ (by repeat' (first | exact rfl | exact Iff.rfl | exact trivial | exact (fun _ _ => rfl) | exact (fun _ h => absurd h (Nat.not_lt_zero _)) | refine ⟨?_, ?_⟩ | exact Iff.rfl | exact congrArg (fun z => V.SV.one (V.At.val (Value.int .i64 z))) (by omega))) (by repeat' (first | exact rfl | exact Iff.rfl | exact trivial | exact (fun _ _ => rfl) | exact (fun _ h => absurd h (Nat.not_lt_zero _)) | refine ⟨?_, ?_⟩ | exact Iff.rfl | exact congrArg (fun z => V.SV.one (V.At.val (Value.int .i64 z))) (by omega)))
      · refine V.NBack.at_ (k + 1) [(11, 15)] (by omega) (by omega) (by repeat' (first | exact rfl | exact Iff.rfl | exact trivial | exact (fun _ _ => rfl) | exact (fun _ h => absurd h (Nat.not_lt_zero _)) | refine ⟨?_, ?_⟩ | exact Iff.rfl | exact congrArg (fun z => V.SV.one (V.At.val (Value.int .i64 z))) (by omega))) rfl ⟨ObLe.as_ (by rw [ed, d2 (by omega)]), ObLe.as_ (by rw [ep, p1 (by omega), List.append_nil]), rfl, rfl, trivial⟩ (by repeat' (first | exact rfl | exact Iff.rfl | exact trivial | exact (fun _ _ => rfl) | exact (fun _ h => absurd h (Nat.not_lt_zero _)) | refine ⟨?_, ?_⟩ | exact Iff.rfl | exact congrArg (fun z => V.SV.one (V.At.val (Value.int .i64 z))) (by omega))) (by repeat' (first | exact rfl | exact Iff.rfl | exact trivial | exact (fun _ _ => rfl) | exact (fun _ h => absurd h (Nat.not_lt_zero _)) | refine ⟨?_, ?_⟩ | exact Iff.rfl | exact congrArg (fun z => V.SV.one (V.At.val (Value.int .i64 z))) (by omega)))
      · refine V.NBack.at_ (k + 1) [(12, 15)] (by omega) (by omega) (by repeat' (first | exact rfl | exact Iff.rfl | exact trivial | exact (fun _ _ => rfl) | exact (fun _ h => absurd h (Nat.not_lt_zero _)) | refine ⟨?_, ?_⟩ | exact Iff.rfl | exact congrArg (fun z => V.SV.one (V.At.val (Value.int .i64 z))) (by omega))) rfl ⟨ObLe.as_ (by rw [ed, d1 (by omega), List.append_nil]), ObLe.as_ (by rw [ep, p2 (by omega)]), rfl, rfl, trivial⟩ (by repeat' (first | exact rfl | exact Iff.rfl | exact trivial | exact (fun _ _ => rfl) | exact (fun _ h => absurd h (Nat.not_lt_zero _)) | refine ⟨?_, ?_⟩ | exact Iff.rfl | exact congrArg (fun z => V.SV.one (V.At.val (Value.int .i64 z))) (by omega))) (by repeat' (first | exact rfl | exact Iff.rfl | exact trivial | exact (fun _ _ => rfl) | exact (fun _ h => absurd h (Nat.not_lt_zero _)) | refine ⟨?_, ?_⟩ | exact Iff.rfl | exact congrArg (fun z => V.SV.one (V.At.val (Value.int .i64 z))) (by omega)))
      all_goals exact V.NBack.at_ (k + 1) [] (by omega) (by omega) (by repeat' (first | exact rfl | exact Iff.rfl | exact trivial | exact (fun _ _ => rfl) | exact (fun _ h => absurd h (Nat.not_lt_zero _)) | refine ⟨?_, ?_⟩ | exact Iff.rfl | exact congrArg (fun z => V.SV.one (V.At.val (Value.int .i64 z))) (by omega))) rfl ⟨ObLe.as_ (by rw [ed, d1 (by omega), List.append_nil]), ObLe.as_ (by rw [ep, p1 (by omega), List.append_nil]), rfl, rfl, trivial⟩ (by repeat' (first | exact rfl | exact Iff.rfl | exact trivial | exact (fun _ _ => rfl) | exact (fun _ h => absurd h (Nat.not_lt_zero _)) | refine ⟨?_, ?_⟩ | exact Iff.rfl | exact congrArg (fun z => V.SV.one (V.At.val (Value.int .i64 z))) (by omega))) (by repeat' (first | exact rfl | exact Iff.rfl | exact trivial | exact (fun _ _ => rfl) | exact (fun _ h => absurd h (Nat.not_lt_zero _)) | refine ⟨?_, ?_⟩ | exact Iff.rfl | exact congrArg (fun z => V.SV.one (V.At.val (Value.int .i64 z))) (by omega)))
    · obtain rfl : k = fs.length := by omega
      rw [List.take_length] at *
      repeat' ((conv => whnf); first | refine V.NCond.mk ?_ | refine V.NIf.not_ ?_ | refine V.NIf.dec_ ?_ | refine V.NIf.no (by omega) ?_ | refine V.NIf.yes (by omega) ?_ | refine V.NIf.mk (fun _ => ?_) (fun _ => ?_) | refine V.NWrap.ok (by omega) (by omega) ?_ | refine V.NWrap.u64 (by omega) (by omega) ?_ | refine V.NLt.mk (by omega) ?_ | refine V.NBoth.mk ?_ ?_ | refine V.NTF.yes (by omega) ?_ | refine V.NTF.no (by omega) ?_ | refine V.NTF.dec ?_ | refine V.NDraw.q (by exact rfl) (by kernel_rfl) ?_ | refine V.NApp.one (by first | omega | (simp; omega)) (by first | omega | (simp; omega)) ?_ | (refine V.NDraw.any (by kernel_rfl) ?_) | fail)
      all_goals (conv => whnf)
      all_goals refine NRet.mk_ [some 11, some 12] rfl ?_ ?_
      all_goals first
        | exact ⟨rfl, rfl, V.fin1 hx, trivial⟩
        | exact ⟨ObLe.as_ eD, ObLe.as_ eP, trivial⟩
  · have hx : ¬ C.xE v fs = 0 := by assumption
    have eD : C.dV v fs = [] := if_neg hx
    have eP : C.pV v fs = [] := if_neg hx
    rw [eD, eP]
    refine NRet.mk_ [none, none] rfl ?_ ?_
    · exact ⟨⟨Nat.le_refl _, rfl⟩, ⟨by simp, rfl⟩, rfl, trivial⟩
    · exact ⟨rfl, rfl, trivial⟩
theorem v_cloneF (l : List Fl) (hn : l.length ≤ 1099511627776) : V.FnR Try.prog 34 [.arr 10 l.length (ga encF l)] [.one (.ref 0)] (.one (.ref 1)) [.row 48 10 l.length (ga encF l)] := by
  refine V.FnR.mk_ V.Tok V.mixed Try.func34 rfl Try.ntmps34 (by kernel_rfl) rfl rfl rfl rfl ?_
  repeat' ((conv => whnf); first | refine V.NCond.mk ?_ | refine V.NIf.not_ ?_ | refine V.NIf.dec_ ?_ | refine V.NIf.no (by omega) ?_ | refine V.NIf.yes (by omega) ?_ | refine V.NIf.mk (fun _ => ?_) (fun _ => ?_) | refine V.NWrap.ok (by omega) (by omega) ?_ | refine V.NWrap.u64 (by omega) (by omega) ?_ | refine V.NLt.mk (by omega) ?_ | refine V.NBoth.mk ?_ ?_ | refine V.NTF.yes (by omega) ?_ | refine V.NTF.no (by omega) ?_ | refine V.NTF.dec ?_ | refine V.NDraw.q (by exact rfl) (by kernel_rfl) ?_ | refine V.NApp.one (by first | omega | (simp; omega)) (by first | omega | (simp; omega)) ?_ | (refine NNil.mk ?_; intro p hp) | (refine NOne.mk ?_ ?_; · (intro k hk; rfl)) | (refine NApp.all_ (by first | omega | (simp; omega)) (by omega) ?_) | (refine V.NDraw.any (by kernel_rfl) ?_) | fail)
  all_goals (conv => whnf)
  · refine NRet.mk_ [some 2] rfl ?_ ?_
    · exact rfl
    · exact ⟨⟨rfl, rfl, (hp (by assumption)).symm, fun k hk => absurd hk (Nat.not_lt_zero _)⟩, trivial⟩
  · refine NRet.mk_ [some 3] rfl ?_ ?_
    · exact rfl
    · exact ⟨⟨rfl, rfl, rfl, fun _ _ => rfl⟩, trivial⟩
set_option maxHeartbeats 4000000 in
theorem v_Grow (v : Ev) (fs : List Fl) : V.FnR Try.prog 11 [.arr 10 fs.length (ga encF fs)] [.agg [.val (.int .i64 v.pa), .val (.int .i64 v.ca), .val (.int .i64 v.gi), .val (.int .i64 v.fo)], .one (.ref 0)] (.tup [.one (.ref 1), .one (.val (.int .i64 (C.gE v fs)))]) [.row 48 10 (C.gV v fs).length (ga encF (C.gV v fs))] := by
  refine V.FnR.mk_ V.Tok V.mixed Try.func11 rfl Try.ntmps11 (by kernel_rfl) rfl rfl rfl rfl ?_
  repeat' ((conv => whnf); first | refine V.NCond.mk ?_ | refine V.NIf.not_ ?_ | refine V.NIf.dec_ ?_ | refine V.NIf.no (by omega) ?_ | refine V.NIf.yes (by omega) ?_ | refine V.NIf.mk (fun _ => ?_) (fun _ => ?_) | refine V.NWrap.ok (by omega) (by omega) ?_ | refine V.NWrap.u64 (by omega) (by omega) ?_ | refine V.NLt.mk (by omega) ?_ | refine V.NBoth.mk ?_ ?_ | refine V.NTF.yes (by omega) ?_ | refine V.NTF.no (by omega) ?_ | refine V.NTF.dec ?_ | refine V.NDraw.q (by exact rfl) (by kernel_rfl) ?_ | refine V.NApp.one (by first | omega | (simp; omega)) (by first | omega | (simp; omega)) ?_ | ((first | refine V.Fn.k (v_clchecks v fs) [0] rfl ?_ ?_ | refine V.Fn.q (v_clchecks v fs) [0] rfl ?_ ?_ | refine V.Fn.a (v_clchecks v fs) [0] rfl ?_ ?_); · ((repeat' (first | exact rfl | exact Iff.rfl | exact trivial | exact (fun _ _ => rfl) | exact (fun _ h => absurd h (Nat.not_lt_zero _)) | refine ⟨?_, ?_⟩ | exact Iff.rfl | exact congrArg (fun z => V.SV.one (V.At.val (Value.int .i64 z))) (by omega))); done)) | ((first | refine V.FnR.k_ (v_cloneF fs (by have := (K.checks_all (C.xE_ok (by assumption)).2).1; omega)) [0] rfl ?_ ?_ | refine V.FnR.a_ (v_cloneF fs (by have := (K.checks_all (C.xE_ok (by assumption)).2).1; omega)) [0] rfl ?_ ?_); · ((repeat' (first | exact rfl | exact Iff.rfl | exact trivial | exact (fun _ _ => rfl) | exact (fun _ h => absurd h (Nat.not_lt_zero _)) | refine ⟨?_, ?_⟩ | exact Iff.rfl | exact congrArg (fun z => V.SV.one (V.At.val (Value.int .i64 z))) (by omega))); done)) | (refine V.NCall.inl (f := 32) V.Tok V.mixed Try.func32 rfl Try.ntmps32 (by kernel_rfl) rfl ?_) | (refine V.NRange.inl V.Tok V.mixed Try.func60 rfl Try.ntmps60 (by kernel_rfl) [4, 5, 7, 8] [] ?_; (conv => whnf); refine V.NIs.mk rfl ?_; (conv => whnf); intro L hL) | (refine V.NDraw.any (by kernel_rfl) ?_) | fail)
  all_goals (conv => whnf)
  · have hx : C.xE v fs = 0 := by assumption
    obtain ⟨hv, hF⟩ := C.xE_ok hx
    obtain ⟨n60, hall, _⟩ := K.checks_all hF
    have ok := (C.ev_ok hv).1
    refine V.NLoop.auto (fun (k : Nat) => [(9, .one (.val (.int .i64 k)))]) (fun (k : Nat) => [(6, .row 48 10 (C.grk v fs k).length (ga encF (C.grk v fs k)))]) [] [] (fun (k : Nat) => fs.length - k) (fun (k : Nat) => k ≤ fs.length ∧ ∀ f ∈ fs.take k, ¬ 1073741824 < (C.gr v f).un) 0 ⟨Nat.zero_le _, by simp⟩ (by repeat' (first | exact rfl | exact Iff.rfl | exact trivial | exact (fun _ _ => rfl) | exact (fun _ h => absurd h (Nat.not_lt_zero _)) | refine ⟨?_, ?_⟩ | exact Iff.rfl | exact congrArg (fun z => V.SV.one (V.At.val (Value.int .i64 z))) (by omega))) (by repeat' (first | exact rfl | exact Iff.rfl | exact trivial | exact (fun _ _ => rfl) | exact (fun _ h => absurd h (Nat.not_lt_zero _)) | refine ⟨?_, ?_⟩ | exact Iff.rfl | exact congrArg (fun z => V.SV.one (V.At.val (Value.int .i64 z))) (by omega))) (fun _ => ⟨rfl, rfl⟩) ?_; (conv => whnf); refine ⟨⟨rfl, rfl⟩, ?_⟩
    rintro k ⟨hk, hJ⟩
    have gl := C.grk_len v fs k
    by_cases hlt : k < fs.length
    · have hf := hall _ (getD_mem hlt)
      have hl := K.left_bd hf
      have hun := (F.ok_bounds hf).2.1
      have hun2 := (F.ok_bounds hf).2.2.1
      have fbd := C.fr_bd ok hl
      have ga := C.grk_at (v := v) hlt
      have gsc := C.grk_succ (v := v) hlt
      have gsm := C.grk_same (v := v) hlt
      have gz := C.gr_zero (v := v) (f := fs.getD k default)
      have gp := C.gr_pos (v := v) (f := fs.getD k default)
      have sf : ∀ x : Fl, ((C.grk v fs k).set k x).getD k default = x := fun x => by rw [getD_at (by simp; omega)]; simp
      have eun : ((C.grk v fs k).getD k default).un = (fs.getD k default).un := by rw [ga]
      have upun : (C.up ((C.grk v fs k).getD k default) (C.fr v (F.left (fs.getD k default)))).un = (fs.getD k default).un + C.fr v (F.left (fs.getD k default)) := by rw [ga]; rfl
      have sun : (((C.grk v fs k).set k (C.up ((C.grk v fs k).getD k default) (C.fr v (F.left (fs.getD k default))))).getD k default).un = (fs.getD k default).un + C.fr v (F.left (fs.getD k default)) := by rw [sf]; exact upun
      repeat' ((conv => whnf); first | refine V.NCond.mk ?_ | refine V.NIf.not_ ?_ | refine V.NIf.dec_ ?_ | refine V.NIf.no (by omega) ?_ | refine V.NIf.yes (by omega) ?_ | refine V.NIf.mk (fun _ => ?_) (fun _ => ?_) | refine V.NWrap.ok (by omega) (by omega) ?_ | refine V.NWrap.u64 (by omega) (by omega) ?_ | refine V.NLt.mk (by omega) ?_ | refine V.NBoth.mk ?_ ?_ | refine V.NTF.yes (by omega) ?_ | refine V.NTF.no (by omega) ?_ | refine V.NTF.dec ?_ | refine V.NDraw.q (by exact rfl) (by kernel_rfl) ?_ | refine V.NApp.one (by first | omega | (simp; omega)) (by first | omega | (simp; omega)) ?_ | (refine NIdx.mk ⟨k, rfl, by omega, ?_⟩) | (refine NIdx.mk ⟨k, rfl, by simp only [List.length_set]; omega, ?_⟩) | (first | refine V.Fn.k0 (v_fleft _ hf) rfl ?_ | refine V.Fn.q0 (v_fleft _ hf) rfl ?_ | refine V.Fn.a0 (v_fleft _ hf) rfl ?_) | (refine V.NYield.mk_ V.Tok V.mixed hL rfl rfl ?_) | (first | refine V.Fn.k0 (v_clfresh v _ ok hl) rfl ?_ | refine V.Fn.q0 (v_clfresh v _ ok hl) rfl ?_ | refine V.Fn.a0 (v_clfresh v _ ok hl) rfl ?_) | (refine NPut.to (C.up ((C.grk v fs k).getD k default) (C.fr v (F.left (fs.getD k default)))) rfl rfl ?_) | (refine V.NDraw.any (by kernel_rfl) ?_) | fail)
      all_goals (conv => whnf)
      · have hp : (fs.getD k default).pa = v.pa := by assumption
        obtain ⟨a, b⟩ := C.g_2 (v := v) (fs := fs) hx ⟨_, getD_mem hlt, by rw [gp hp]; show 1073741824 < (fs.getD k default).un + _; omega⟩
        rw [a, b]
        refine NRet.mk_ [none] rfl ?_ ?_
        · exact ⟨⟨by simp, rfl⟩, rfl, trivial⟩
        · exact ⟨rfl, trivial⟩
      · have hp : (fs.getD k default).pa = v.pa := by assumption
        exact V.NBack.at_ (k + 1) [] ⟨by omega, all_snoc hlt hJ (by rw [gp hp]; show ¬ 1073741824 < (fs.getD k default).un + _; omega)⟩ (by omega) (by repeat' (first | exact rfl | exact Iff.rfl | exact trivial | exact (fun _ _ => rfl) | exact (fun _ h => absurd h (Nat.not_lt_zero _)) | refine ⟨?_, ?_⟩ | exact Iff.rfl | exact congrArg (fun z => V.SV.one (V.At.val (Value.int .i64 z))) (by omega))) rfl ⟨ObLe.is_ (by rw [ga, ← gp hp, gsc]) (by simp [C.grk_len]), trivial⟩ (by repeat' (first | exact rfl | exact Iff.rfl | exact trivial | exact (fun _ _ => rfl) | exact (fun _ h => absurd h (Nat.not_lt_zero _)) | refine ⟨?_, ?_⟩ | exact Iff.rfl | exact congrArg (fun z => V.SV.one (V.At.val (Value.int .i64 z))) (by omega))) (by repeat' (first | exact rfl | exact Iff.rfl | exact trivial | exact (fun _ _ => rfl) | exact (fun _ h => absurd h (Nat.not_lt_zero _)) | refine ⟨?_, ?_⟩ | exact Iff.rfl | exact congrArg (fun z => V.SV.one (V.At.val (Value.int .i64 z))) (by omega)))
      all_goals exact V.NBack.at_ (k + 1) [] ⟨by omega, all_snoc hlt hJ (by rw [gz (by omega) hl.1]; omega)⟩ (by omega) (by repeat' (first | exact rfl | exact Iff.rfl | exact trivial | exact (fun _ _ => rfl) | exact (fun _ h => absurd h (Nat.not_lt_zero _)) | refine ⟨?_, ?_⟩ | exact Iff.rfl | exact congrArg (fun z => V.SV.one (V.At.val (Value.int .i64 z))) (by omega))) rfl ⟨ObLe.as_ (gsm (gz (by omega) hl.1)), trivial⟩ (by repeat' (first | exact rfl | exact Iff.rfl | exact trivial | exact (fun _ _ => rfl) | exact (fun _ h => absurd h (Nat.not_lt_zero _)) | refine ⟨?_, ?_⟩ | exact Iff.rfl | exact congrArg (fun z => V.SV.one (V.At.val (Value.int .i64 z))) (by omega))) (by repeat' (first | exact rfl | exact Iff.rfl | exact trivial | exact (fun _ _ => rfl) | exact (fun _ h => absurd h (Nat.not_lt_zero _)) | refine ⟨?_, ?_⟩ | exact Iff.rfl | exact congrArg (fun z => V.SV.one (V.At.val (Value.int .i64 z))) (by omega)))
    · obtain rfl : k = fs.length := by omega
      rw [List.take_length] at hJ
      obtain ⟨a, b⟩ := C.g_3 hx (fun ⟨f, h1, h2⟩ => hJ f h1 h2)
      repeat' ((conv => whnf); first | refine V.NCond.mk ?_ | refine V.NIf.not_ ?_ | refine V.NIf.dec_ ?_ | refine V.NIf.no (by omega) ?_ | refine V.NIf.yes (by omega) ?_ | refine V.NIf.mk (fun _ => ?_) (fun _ => ?_) | refine V.NWrap.ok (by omega) (by omega) ?_ | refine V.NWrap.u64 (by omega) (by omega) ?_ | refine V.NLt.mk (by omega) ?_ | refine V.NBoth.mk ?_ ?_ | refine V.NTF.yes (by omega) ?_ | refine V.NTF.no (by omega) ?_ | refine V.NTF.dec ?_ | refine V.NDraw.q (by exact rfl) (by kernel_rfl) ?_ | refine V.NApp.one (by first | omega | (simp; omega)) (by first | omega | (simp; omega)) ?_ | (refine V.NDraw.any (by kernel_rfl) ?_) | fail)
      all_goals (conv => whnf)
      all_goals refine NRet.mk_ [some 6] rfl ?_ ?_
      all_goals first
        | exact ⟨rfl, V.fin1 a, trivial⟩
        | exact ⟨ObLe.as_ (b.trans (C.grk_end v fs).symm), trivial⟩
  · obtain ⟨a, b⟩ := C.g_1 (v := v) (fs := fs) (by assumption)
    rw [a, b]
    refine NRet.mk_ [none] rfl ?_ ?_
    · exact ⟨⟨by simp, rfl⟩, rfl, trivial⟩
    · exact ⟨rfl, trivial⟩
end Go.Proofs.Yteblbhbfdfifpaa
