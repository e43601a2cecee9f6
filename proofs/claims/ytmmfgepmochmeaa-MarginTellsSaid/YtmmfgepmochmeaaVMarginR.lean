/- What the document's functions on what is put down answer. -/
import Derived.Test.YtmmfgepmochmeaaVMargin
import Derived.Test.YtmmfgepmochmeaaVFailL
import Derived.Test.YtmmfgepmochmeaaVSumOf
namespace Go.Proofs.Ytmmfgepmochmeaa
open Go Go.RowKit V
set_option maxRecDepth 100000
set_option linter.unusedVariables false
theorem v_rstakes (l : List St) (hn : l.length ≤ 9223372036854775807) : V.Fn Try.prog 15 [.arr 3 l.length (ga encS l)] [.one (.ref 0)] (.int .i64 (K.chk l)) := by
  refine V.Fn.mk_ V.Tok V.mixed Try.func15 rfl Try.ntmps15 (by kernel_rfl) rfl rfl ?_
  repeat' ((conv => whnf); first | refine V.NCond.mk ?_ | refine V.NIf.not_ ?_ | refine V.NIf.dec_ ?_ | refine V.NIf.no (by omega) ?_ | refine V.NIf.yes (by omega) ?_ | refine V.NIf.mk (fun _ => ?_) (fun _ => ?_) | refine V.NWrap.ok (by omega) (by omega) ?_ | refine V.NWrap.u64 (by omega) (by omega) ?_ | refine V.NLt.mk (by omega) ?_ | refine V.NBoth.mk ?_ ?_ | refine V.NTF.yes (by omega) ?_ | refine V.NTF.no (by omega) ?_ | refine V.NTF.dec ?_ | refine V.NDraw.q (by exact rfl) (by kernel_rfl) ?_ | refine V.NApp.one (by first | omega | (simp; omega)) (by first | omega | (simp; omega)) ?_ | (refine V.NDraw.any (by kernel_rfl) ?_) | fail)
  all_goals (conv => whnf)
  · exact V.fin1 (if_pos (by omega))
  refine V.NLoop.auto (fun (k : Nat) => [(3, .one (.val (.int .i64 k)))]) (fun (k : Nat) => []) [] [] (fun (k : Nat) => l.length - k) (fun (k : Nat) => k ≤ l.length ∧ ∀ s ∈ l.take k, K.Ok s) 0 ⟨Nat.zero_le _, by simp⟩ (by repeat' (first | exact rfl | exact Iff.rfl | exact trivial | exact (fun _ _ => rfl) | exact (fun _ h => absurd h (Nat.not_lt_zero _)) | refine ⟨?_, ?_⟩ | exact Iff.rfl | exact congrArg (fun z => V.SV.one (V.At.val (Value.int .i64 z))) (by omega))) (by repeat' (first | exact rfl | exact Iff.rfl | exact trivial | exact (fun _ _ => rfl) | exact (fun _ h => absurd h (Nat.not_lt_zero _)) | refine ⟨?_, ?_⟩ | exact Iff.rfl | exact congrArg (fun z => V.SV.one (V.At.val (Value.int .i64 z))) (by omega))) (fun _ => ⟨rfl, rfl⟩) ?_; (conv => whnf); refine ⟨⟨rfl, rfl⟩, ?_⟩
  rintro k ⟨hk, hJ⟩
  by_cases hlt : k < l.length
  · have bad := K.chk_bad (l := l) (by omega) (getD_mem hlt)
    repeat' ((conv => whnf); first | refine V.NCond.mk ?_ | refine V.NIf.not_ ?_ | refine V.NIf.dec_ ?_ | refine V.NIf.no (by omega) ?_ | refine V.NIf.yes (by omega) ?_ | refine V.NIf.mk (fun _ => ?_) (fun _ => ?_) | refine V.NWrap.ok (by omega) (by omega) ?_ | refine V.NWrap.u64 (by omega) (by omega) ?_ | refine V.NLt.mk (by omega) ?_ | refine V.NBoth.mk ?_ ?_ | refine V.NTF.yes (by omega) ?_ | refine V.NTF.no (by omega) ?_ | refine V.NTF.dec ?_ | refine V.NDraw.q (by exact rfl) (by kernel_rfl) ?_ | refine V.NApp.one (by first | omega | (simp; omega)) (by first | omega | (simp; omega)) ?_ | (refine NIdx.mk ⟨k, rfl, by omega, ?_⟩) | (first | refine V.Fn.k0 (v_rbetween _ _ _) rfl ?_ | refine V.Fn.q0 (v_rbetween _ _ _) rfl ?_ | refine V.Fn.a0 (v_rbetween _ _ _) rfl ?_) | (refine V.NDraw.any (by kernel_rfl) ?_) | fail)
    all_goals (conv => whnf)
    all_goals first
      | exact V.NBack.at_ (k + 1) [] ⟨by omega, all_snoc hlt hJ ⟨by assumption, by assumption, by assumption⟩⟩ (by omega) (by repeat' (first | exact rfl | exact Iff.rfl | exact trivial | exact (fun _ _ => rfl) | exact (fun _ h => absurd h (Nat.not_lt_zero _)) | refine ⟨?_, ?_⟩ | exact Iff.rfl | exact congrArg (fun z => V.SV.one (V.At.val (Value.int .i64 z))) (by omega))) rfl (by repeat' (first | exact rfl | exact Iff.rfl | exact trivial | exact (fun _ _ => rfl) | exact (fun _ h => absurd h (Nat.not_lt_zero _)) | refine ⟨?_, ?_⟩ | exact Iff.rfl | exact congrArg (fun z => V.SV.one (V.At.val (Value.int .i64 z))) (by omega))) (by repeat' (first | exact rfl | exact Iff.rfl | exact trivial | exact (fun _ _ => rfl) | exact (fun _ h => absurd h (Nat.not_lt_zero _)) | refine ⟨?_, ?_⟩ | exact Iff.rfl | exact congrArg (fun z => V.SV.one (V.At.val (Value.int .i64 z))) (by omega))) (by repeat' (first | exact rfl | exact Iff.rfl | exact trivial | exact (fun _ _ => rfl) | exact (fun _ h => absurd h (Nat.not_lt_zero _)) | refine ⟨?_, ?_⟩ | exact Iff.rfl | exact congrArg (fun z => V.SV.one (V.At.val (Value.int .i64 z))) (by omega)))
      | exact V.fin1 (bad (by unfold K.Ok; omega))
  · repeat' ((conv => whnf); first | refine V.NCond.mk ?_ | refine V.NIf.not_ ?_ | refine V.NIf.dec_ ?_ | refine V.NIf.no (by omega) ?_ | refine V.NIf.yes (by omega) ?_ | refine V.NIf.mk (fun _ => ?_) (fun _ => ?_) | refine V.NWrap.ok (by omega) (by omega) ?_ | refine V.NWrap.u64 (by omega) (by omega) ?_ | refine V.NLt.mk (by omega) ?_ | refine V.NBoth.mk ?_ ?_ | refine V.NTF.yes (by omega) ?_ | refine V.NTF.no (by omega) ?_ | refine V.NTF.dec ?_ | refine V.NDraw.q (by exact rfl) (by kernel_rfl) ?_ | refine V.NApp.one (by first | omega | (simp; omega)) (by first | omega | (simp; omega)) ?_ | (refine V.NDraw.any (by kernel_rfl) ?_) | fail)
    all_goals (conv => whnf)
    exact V.fin1 (K.chk_of (by omega) (all_whole (by omega) hJ))
theorem v_rcounts (s : St) (u : Int) (ps : List Int) (h : P.chks ps = 0) (hs : K.Ok s) (hu : 0 ≤ u ∧ u ≤ 1073741824) : V.Fn Try.prog 29 [.arr 1 ps.length (ga e1 ps)] [.agg [.val (.int .i64 s.pa), .val (.int .i64 s.un), .val (.int .i64 s.ct)], .one (.val (.int .i64 u)), .one (.ref 0)] (.int .i64 (K.cnt ps s u)) := by
  have hp := P.pr_ok h hs.1
  have hl := (P.chks_ok h).1
  have c := P.cost_bd hu hp
  have hc := K.cnt_bd h hs hu
  have e1 : M.poQ u (P.pr ps s.pa) 10000 = P.cost u (P.pr ps s.pa) := if_neg (by unfold P.cost at c; omega)
  have e2 : M.poQ (P.cost u (P.pr ps s.pa)) s.ct 10000 = K.cnt ps s u := if_neg (by unfold K.cnt at hc; omega)
  have vc := v_partOf u (P.pr ps s.pa) 10000 (by omega) hp (by decide)
  have vp := v_partOf (P.cost u (P.pr ps s.pa)) s.ct 10000 (by omega) (by have := hs.2.2; omega) (by decide)
  rw [e1] at vc
  rw [e2] at vp
  have hpa := hs.1
  refine V.Fn.mk_ V.Tok V.mixed Try.func29 rfl Try.ntmps29 (by kernel_rfl) rfl rfl ?_
  repeat' ((conv => whnf); first | refine V.NCond.mk ?_ | refine V.NIf.not_ ?_ | refine V.NIf.dec_ ?_ | refine V.NIf.no (by omega) ?_ | refine V.NIf.yes (by omega) ?_ | refine V.NIf.mk (fun _ => ?_) (fun _ => ?_) | refine V.NWrap.ok (by omega) (by omega) ?_ | refine V.NWrap.u64 (by omega) (by omega) ?_ | refine V.NLt.mk (by omega) ?_ | refine V.NBoth.mk ?_ ?_ | refine V.NTF.yes (by omega) ?_ | refine V.NTF.no (by omega) ?_ | refine V.NTF.dec ?_ | refine V.NDraw.q (by exact rfl) (by kernel_rfl) ?_ | refine V.NApp.one (by first | omega | (simp; omega)) (by first | omega | (simp; omega)) ?_ | (refine NIdx.mk ⟨(s.pa - 1).toNat, by omega, by omega, ?_⟩) | (first | refine V.Fn.k0 (vc) rfl ?_ | refine V.Fn.q0 (vc) rfl ?_ | refine V.Fn.a0 (vc) rfl ?_) | (first | refine V.Fn.k0 (vp) rfl ?_ | refine V.Fn.q0 (vp) rfl ?_ | refine V.Fn.a0 (vp) rfl ?_) | (refine V.NDraw.any (by kernel_rfl) ?_) | fail)
  exact rfl
theorem K.sof {l : List Int} (h : 0 ≤ M.sum l ∧ M.sum l ≤ 9223372036854775807) : (M.Amt (M.sum l) → M.sofV l = M.sum l) ∧ (M.Amt (M.sum l) ↔ ¬ 1152921504606846976 < M.sum l) :=
  ⟨fun q => if_pos (by unfold M.Amt at q; omega), by unfold M.Amt; omega⟩
theorem v_rvalue (l : List St) (ps : List Int) (hn : l.length ≤ 9223372036854775807) (hp : ps.length ≤ 9223372036854775807) : V.Fn Try.prog 13 [.arr 3 l.length (ga encS l), .arr 1 ps.length (ga e1 ps)] [.one (.ref 0), .one (.ref 1)] (.tuple #[.int .i64 (K.vV l ps), .int .i64 (K.vE l ps)]) := by
  have c1 := @K.v_1 l ps
  have c2 := @K.v_2 l ps
  have c3 := @K.v_3 l ps
  have d1 := @K.ck_1 l ps
  have d2 := @K.ck_2 l ps
  refine V.Fn.mk_ V.Tok V.mixed Try.func13 rfl Try.ntmps13 (by kernel_rfl) rfl rfl ?_
  repeat' ((conv => whnf); first | refine V.NCond.mk ?_ | refine V.NIf.not_ ?_ | refine V.NIf.dec_ ?_ | refine V.NIf.no (by omega) ?_ | refine V.NIf.yes (by omega) ?_ | refine V.NIf.mk (fun _ => ?_) (fun _ => ?_) | refine V.NWrap.ok (by omega) (by omega) ?_ | refine V.NWrap.u64 (by omega) (by omega) ?_ | refine V.NLt.mk (by omega) ?_ | refine V.NBoth.mk ?_ ?_ | refine V.NTF.yes (by omega) ?_ | refine V.NTF.no (by omega) ?_ | refine V.NTF.dec ?_ | refine V.NDraw.q (by exact rfl) (by kernel_rfl) ?_ | refine V.NApp.one (by first | omega | (simp; omega)) (by first | omega | (simp; omega)) ?_ | ((first | refine V.Fn.k (v_rstakes l hn) [0] rfl ?_ ?_ | refine V.Fn.q (v_rstakes l hn) [0] rfl ?_ ?_ | refine V.Fn.a (v_rstakes l hn) [0] rfl ?_ ?_); · ((repeat' (first | exact rfl | exact Iff.rfl | exact trivial | exact (fun _ _ => rfl) | exact (fun _ h => absurd h (Nat.not_lt_zero _)) | refine ⟨?_, ?_⟩ | exact Iff.rfl | exact congrArg (fun z => V.SV.one (V.At.val (Value.int .i64 z))) (by omega))); done)) | ((first | refine V.Fn.k (v_rprices ps hp) [1] rfl ?_ ?_ | refine V.Fn.q (v_rprices ps hp) [1] rfl ?_ ?_ | refine V.Fn.a (v_rprices ps hp) [1] rfl ?_ ?_); · ((repeat' (first | exact rfl | exact Iff.rfl | exact trivial | exact (fun _ _ => rfl) | exact (fun _ h => absurd h (Nat.not_lt_zero _)) | refine ⟨?_, ?_⟩ | exact Iff.rfl | exact congrArg (fun z => V.SV.one (V.At.val (Value.int .i64 z))) (by omega))); done)) | (refine V.NDraw.any (by kernel_rfl) ?_) | fail)
  all_goals (conv => whnf)
  rotate_left
  · have e := d2 (by assumption)
    obtain ⟨a, b⟩ := c1 (by omega)
    exact V.fin2 ⟨b, by omega⟩
  · have e := d1 (by assumption)
    obtain ⟨a, b⟩ := c1 (by omega)
    exact V.fin2 ⟨b, by omega⟩
  have hps : P.chks ps = 0 := by assumption
  have hck := K.ck_of (l := l) (by assumption) hps
  obtain ⟨h40, hok⟩ := K.chk_ok (l := l) (by assumption)
  have vb := K.val_bd hps hok (by omega)
  refine V.NLoop.auto (fun (k : Nat) => [(8, .one (.val (.int .i64 k))), (7, .one (.ref 2))]) (fun (k : Nat) => [(2, .row 3 1 (K.cts ps (l.take k)).length (ga e1 (K.cts ps (l.take k))))]) [] [] (fun (k : Nat) => l.length - k) (fun (k : Nat) => k ≤ l.length) 0 (Nat.zero_le _) (by repeat' (first | exact rfl | exact Iff.rfl | exact trivial | exact (fun _ _ => rfl) | exact (fun _ h => absurd h (Nat.not_lt_zero _)) | refine ⟨?_, ?_⟩ | exact Iff.rfl | exact congrArg (fun z => V.SV.one (V.At.val (Value.int .i64 z))) (by omega))) (by repeat' (first | exact rfl | exact Iff.rfl | exact trivial | exact (fun _ _ => rfl) | exact (fun _ h => absurd h (Nat.not_lt_zero _)) | refine ⟨?_, ?_⟩ | exact Iff.rfl | exact congrArg (fun z => V.SV.one (V.At.val (Value.int .i64 z))) (by omega))) (fun _ => ⟨rfl, rfl⟩) ?_; (conv => whnf); refine ⟨⟨rfl, rfl⟩, ?_⟩
  rintro k hk
  have cl : (K.cts ps (l.take k)).length ≤ k := by unfold K.cts; simp; omega
  by_cases hlt : k < l.length
  · have hs := hok _ (getD_mem hlt)
    have hu : 0 ≤ (l.getD k default).un ∧ (l.getD k default).un ≤ 1073741824 := by have := hs.2.1; omega
    have es : K.cts ps (l.take (k + 1)) = K.cts ps (l.take k) ++ [K.cnt ps (l.getD k default) (l.getD k default).un] := by
      unfold K.cts; rw [List.take_succ_eq_append_getElem hlt, List.map_append, getD_at hlt]; rfl
    repeat' ((conv => whnf); first | refine V.NCond.mk ?_ | refine V.NIf.not_ ?_ | refine V.NIf.dec_ ?_ | refine V.NIf.no (by omega) ?_ | refine V.NIf.yes (by omega) ?_ | refine V.NIf.mk (fun _ => ?_) (fun _ => ?_) | refine V.NWrap.ok (by omega) (by omega) ?_ | refine V.NWrap.u64 (by omega) (by omega) ?_ | refine V.NLt.mk (by omega) ?_ | refine V.NBoth.mk ?_ ?_ | refine V.NTF.yes (by omega) ?_ | refine V.NTF.no (by omega) ?_ | refine V.NTF.dec ?_ | refine V.NDraw.q (by exact rfl) (by kernel_rfl) ?_ | refine V.NApp.one (by first | omega | (simp; omega)) (by first | omega | (simp; omega)) ?_ | (refine NIdx.mk ⟨k, rfl, by omega, ?_⟩) | ((first | refine V.Fn.k (v_rcounts (l.getD k default) (l.getD k default).un ps hps hs hu) [1] rfl ?_ ?_ | refine V.Fn.q (v_rcounts (l.getD k default) (l.getD k default).un ps hps hs hu) [1] rfl ?_ ?_ | refine V.Fn.a (v_rcounts (l.getD k default) (l.getD k default).un ps hps hs hu) [1] rfl ?_ ?_); · ((repeat' (first | exact rfl | exact Iff.rfl | exact trivial | exact (fun _ _ => rfl) | exact (fun _ h => absurd h (Nat.not_lt_zero _)) | refine ⟨?_, ?_⟩ | exact Iff.rfl | exact congrArg (fun z => V.SV.one (V.At.val (Value.int .i64 z))) (by omega))); done)) | (refine V.NDraw.any (by kernel_rfl) ?_) | fail)
    all_goals (conv => whnf)
    exact V.NBack.at_ (k + 1) [(2, 4)] (by omega) (by omega) (by repeat' (first | exact rfl | exact Iff.rfl | exact trivial | exact (fun _ _ => rfl) | exact (fun _ h => absurd h (Nat.not_lt_zero _)) | refine ⟨?_, ?_⟩ | exact Iff.rfl | exact congrArg (fun z => V.SV.one (V.At.val (Value.int .i64 z))) (by omega))) rfl ⟨ObLe.as_ es, trivial⟩ (by repeat' (first | exact rfl | exact Iff.rfl | exact trivial | exact (fun _ _ => rfl) | exact (fun _ h => absurd h (Nat.not_lt_zero _)) | refine ⟨?_, ?_⟩ | exact Iff.rfl | exact congrArg (fun z => V.SV.one (V.At.val (Value.int .i64 z))) (by omega))) (by repeat' (first | exact rfl | exact Iff.rfl | exact trivial | exact (fun _ _ => rfl) | exact (fun _ h => absurd h (Nat.not_lt_zero _)) | refine ⟨?_, ?_⟩ | exact Iff.rfl | exact congrArg (fun z => V.SV.one (V.At.val (Value.int .i64 z))) (by omega)))
  obtain rfl : k = l.length := by omega
  rw [List.take_length] at *
  have hv : M.sum (K.cts ps l) = K.val ps l := rfl
  have sof := K.sof (l := K.cts ps l) (by omega)
  have am : ∀ a ∈ K.cts ps l, M.Amt a := fun a ha => by
    obtain ⟨s, hs, rfl⟩ := List.mem_map.1 ha
    have := K.cnt_bd (u := s.un) hps (hok s hs) (by have := (hok s hs).2.1; omega)
    unfold M.Amt; omega
  have vs := v_sumof (K.cts ps l) (by omega) am
  repeat' ((conv => whnf); first | refine V.NCond.mk ?_ | refine V.NIf.not_ ?_ | refine V.NIf.dec_ ?_ | refine V.NIf.no (by omega) ?_ | refine V.NIf.yes (by omega) ?_ | refine V.NIf.mk (fun _ => ?_) (fun _ => ?_) | refine V.NWrap.ok (by omega) (by omega) ?_ | refine V.NWrap.u64 (by omega) (by omega) ?_ | refine V.NLt.mk (by omega) ?_ | refine V.NBoth.mk ?_ ?_ | refine V.NTF.yes (by omega) ?_ | refine V.NTF.no (by omega) ?_ | refine V.NTF.dec ?_ | refine V.NDraw.q (by exact rfl) (by kernel_rfl) ?_ | refine V.NApp.one (by first | omega | (simp; omega)) (by first | omega | (simp; omega)) ?_ | ((first | refine V.Fn.k (vs) [2] rfl ?_ ?_ | refine V.Fn.q (vs) [2] rfl ?_ ?_ | refine V.Fn.a (vs) [2] rfl ?_ ?_); · ((repeat' (first | exact rfl | exact Iff.rfl | exact trivial | exact (fun _ _ => rfl) | exact (fun _ h => absurd h (Nat.not_lt_zero _)) | refine ⟨?_, ?_⟩ | exact Iff.rfl | exact congrArg (fun z => V.SV.one (V.At.val (Value.int .i64 z))) (by omega))); done)) | (refine V.NDraw.any (by kernel_rfl) ?_) | fail)
  all_goals (conv => whnf)
  · obtain ⟨a, b⟩ := c3 hck (by have := sof.2.1 (by assumption); omega)
    exact V.fin2 ⟨by rw [b, sof.1 (by assumption)]; rfl, a⟩
  · obtain ⟨a, b⟩ := c2 hck (by
      rcases Int.lt_or_le 1152921504606846976 (K.val ps l) with q | q
      · exact q
      · exact absurd (sof.2.2 (by omega)) (by assumption))
    exact V.fin2 ⟨b, a⟩
theorem v_rneed (fs : List Fl) (ps : List Int) (a b : Int) (hp : ps.length ≤ 9223372036854775807) : V.Fn Try.prog 14 [.arr 10 fs.length (ga encF fs), .arr 1 ps.length (ga e1 ps)] [.one (.ref 0), .one (.ref 1), .one (.val (.int .i64 a)), .one (.val (.int .i64 b))] (.tuple #[.int .i64 (K.nV fs ps a b), .int .i64 (K.nE fs ps a b)]) := by
  refine V.Fn.mk_ V.Tok V.mixed Try.func14 rfl Try.ntmps14 (by kernel_rfl) rfl rfl ?_
  repeat' ((conv => whnf); first | refine V.NCond.mk ?_ | refine V.NIf.not_ ?_ | refine V.NIf.dec_ ?_ | refine V.NIf.no (by omega) ?_ | refine V.NIf.yes (by omega) ?_ | refine V.NIf.mk (fun _ => ?_) (fun _ => ?_) | refine V.NWrap.ok (by omega) (by omega) ?_ | refine V.NWrap.u64 (by omega) (by omega) ?_ | refine V.NLt.mk (by omega) ?_ | refine V.NBoth.mk ?_ ?_ | refine V.NTF.yes (by omega) ?_ | refine V.NTF.no (by omega) ?_ | refine V.NTF.dec ?_ | refine V.NDraw.q (by exact rfl) (by kernel_rfl) ?_ | refine V.NApp.one (by first | omega | (simp; omega)) (by first | omega | (simp; omega)) ?_ | ((first | refine V.Fn.k (v_rfchecks fs) [0] rfl ?_ ?_ | refine V.Fn.q (v_rfchecks fs) [0] rfl ?_ ?_ | refine V.Fn.a (v_rfchecks fs) [0] rfl ?_ ?_); · ((repeat' (first | exact rfl | exact Iff.rfl | exact trivial | exact (fun _ _ => rfl) | exact (fun _ h => absurd h (Nat.not_lt_zero _)) | refine ⟨?_, ?_⟩ | exact Iff.rfl | exact congrArg (fun z => V.SV.one (V.At.val (Value.int .i64 z))) (by omega))); done)) | ((first | refine V.Fn.k (v_rprices ps hp) [1] rfl ?_ ?_ | refine V.Fn.q (v_rprices ps hp) [1] rfl ?_ ?_ | refine V.Fn.a (v_rprices ps hp) [1] rfl ?_ ?_); · ((repeat' (first | exact rfl | exact Iff.rfl | exact trivial | exact (fun _ _ => rfl) | exact (fun _ h => absurd h (Nat.not_lt_zero _)) | refine ⟨?_, ?_⟩ | exact Iff.rfl | exact congrArg (fun z => V.SV.one (V.At.val (Value.int .i64 z))) (by omega))); done)) | (first | refine V.Fn.k0 (v_rbetween _ _ _) rfl ?_ | refine V.Fn.q0 (v_rbetween _ _ _) rfl ?_ | refine V.Fn.a0 (v_rbetween _ _ _) rfl ?_) | (refine V.NDraw.any (by kernel_rfl) ?_) | fail)
  all_goals (conv => whnf)
  rotate_left
  · exact V.fin2 (and_comm.1 (K.n_3 (by assumption) (by assumption) (by omega)))
  · exact V.fin2 (and_comm.1 (K.n_3 (by assumption) (by assumption) (by omega)))
  · exact V.fin2 (and_comm.1 (K.n_2 (by assumption) (by assumption)))
  · exact V.fin2 (and_comm.1 (K.n_1 (by assumption)))
  obtain ⟨h1, h2, _⟩ := K.checks_all (by assumption)
  have hps : P.chks ps = 0 := by assumption
  have hpl := (P.chks_ok hps).1
  refine V.NLoop.auto (fun (k : Nat) => [(12, .one (.val (.int .i64 k))), (11, .one (.ref 2))]) (fun (k : Nat) => [(2, .row 3 1 (K.nds (fs.take k) ps a).length (ga e1 (K.nds (fs.take k) ps a)))]) [] [] (fun (k : Nat) => fs.length - k) (fun (k : Nat) => k ≤ fs.length) 0 (Nat.zero_le _) (by repeat' (first | exact rfl | exact Iff.rfl | exact trivial | exact (fun _ _ => rfl) | exact (fun _ h => absurd h (Nat.not_lt_zero _)) | refine ⟨?_, ?_⟩ | exact Iff.rfl | exact congrArg (fun z => V.SV.one (V.At.val (Value.int .i64 z))) (by omega))) (by repeat' (first | exact rfl | exact Iff.rfl | exact trivial | exact (fun _ _ => rfl) | exact (fun _ h => absurd h (Nat.not_lt_zero _)) | refine ⟨?_, ?_⟩ | exact Iff.rfl | exact congrArg (fun z => V.SV.one (V.At.val (Value.int .i64 z))) (by omega))) (fun _ => ⟨rfl, rfl⟩) ?_; (conv => whnf); refine ⟨⟨rfl, rfl⟩, ?_⟩
  rintro k hk
  have cl : (K.nds (fs.take k) ps a).length ≤ k := by
    unfold K.nds
    rw [List.length_map]
    have h1 := List.length_filter_le (fun f : Fl => decide (f.fr = a)) (fs.take k)
    have h2 := List.length_take_le k fs
    omega
  by_cases hlt : k < fs.length
  · have hf := h2 _ (getD_mem hlt)
    have hpa := hf.1.2.2.2.2.1
    have hl := K.left_bd hf
    have hpr := P.pr_ok hps hpa
    have hc := K.ask_bd hps hf
    have e1 : M.poQ (F.left (fs.getD k default)) (P.pr ps (fs.getD k default).pa) 10000 = P.cost (F.left (fs.getD k default)) (P.pr ps (fs.getD k default).pa) := if_neg (by unfold P.cost at hc; omega)
    have vc := v_partOf (F.left (fs.getD k default)) (P.pr ps (fs.getD k default).pa) 10000 (by omega) hpr (by decide)
    rw [e1] at vc
    have es : K.nds (fs.take (k + 1)) ps a = if (fs.getD k default).fr = a then K.nds (fs.take k) ps a ++ [P.cost (F.left (fs.getD k default)) (P.pr ps (fs.getD k default).pa)] else K.nds (fs.take k) ps a := by
      unfold K.nds
      rw [List.take_succ_eq_append_getElem hlt, List.filter_append, List.map_append, getD_at hlt]
      by_cases q : fs[k].fr = a <;> simp [q]
    repeat' ((conv => whnf); first | refine V.NCond.mk ?_ | refine V.NIf.not_ ?_ | refine V.NIf.dec_ ?_ | refine V.NIf.no (by omega) ?_ | refine V.NIf.yes (by omega) ?_ | refine V.NIf.mk (fun _ => ?_) (fun _ => ?_) | refine V.NWrap.ok (by omega) (by omega) ?_ | refine V.NWrap.u64 (by omega) (by omega) ?_ | refine V.NLt.mk (by omega) ?_ | refine V.NBoth.mk ?_ ?_ | refine V.NTF.yes (by omega) ?_ | refine V.NTF.no (by omega) ?_ | refine V.NTF.dec ?_ | refine V.NDraw.q (by exact rfl) (by kernel_rfl) ?_ | refine V.NApp.one (by first | omega | (simp; omega)) (by first | omega | (simp; omega)) ?_ | (refine NIdx.mk ⟨k, rfl, by omega, ?_⟩) | (first | refine V.Fn.k0 (v_rfopen (fs.getD k default) ⟨hf.1, hf.2.2.1⟩) rfl ?_ | refine V.Fn.q0 (v_rfopen (fs.getD k default) ⟨hf.1, hf.2.2.1⟩) rfl ?_ | refine V.Fn.a0 (v_rfopen (fs.getD k default) ⟨hf.1, hf.2.2.1⟩) rfl ?_) | (refine NIdx.mk ⟨((fs.getD k default).pa - 1).toNat, by omega, by omega, ?_⟩) | (first | refine V.Fn.k0 (vc) rfl ?_ | refine V.Fn.q0 (vc) rfl ?_ | refine V.Fn.a0 (vc) rfl ?_) | (refine V.NDraw.any (by kernel_rfl) ?_) | fail)
    all_goals (conv => whnf)
    · exact V.NBack.at_ (k + 1) [(2, 4)] (by omega) (by omega) (by repeat' (first | exact rfl | exact Iff.rfl | exact trivial | exact (fun _ _ => rfl) | exact (fun _ h => absurd h (Nat.not_lt_zero _)) | refine ⟨?_, ?_⟩ | exact Iff.rfl | exact congrArg (fun z => V.SV.one (V.At.val (Value.int .i64 z))) (by omega))) rfl ⟨ObLe.as_ (es.trans (if_pos (by assumption))), trivial⟩ (by repeat' (first | exact rfl | exact Iff.rfl | exact trivial | exact (fun _ _ => rfl) | exact (fun _ h => absurd h (Nat.not_lt_zero _)) | refine ⟨?_, ?_⟩ | exact Iff.rfl | exact congrArg (fun z => V.SV.one (V.At.val (Value.int .i64 z))) (by omega))) (by repeat' (first | exact rfl | exact Iff.rfl | exact trivial | exact (fun _ _ => rfl) | exact (fun _ h => absurd h (Nat.not_lt_zero _)) | refine ⟨?_, ?_⟩ | exact Iff.rfl | exact congrArg (fun z => V.SV.one (V.At.val (Value.int .i64 z))) (by omega)))
    · exact V.NBack.at_ (k + 1) [] (by omega) (by omega) (by repeat' (first | exact rfl | exact Iff.rfl | exact trivial | exact (fun _ _ => rfl) | exact (fun _ h => absurd h (Nat.not_lt_zero _)) | refine ⟨?_, ?_⟩ | exact Iff.rfl | exact congrArg (fun z => V.SV.one (V.At.val (Value.int .i64 z))) (by omega))) rfl ⟨ObLe.as_ (es.trans (if_neg (by assumption))), trivial⟩ (by repeat' (first | exact rfl | exact Iff.rfl | exact trivial | exact (fun _ _ => rfl) | exact (fun _ h => absurd h (Nat.not_lt_zero _)) | refine ⟨?_, ?_⟩ | exact Iff.rfl | exact congrArg (fun z => V.SV.one (V.At.val (Value.int .i64 z))) (by omega))) (by repeat' (first | exact rfl | exact Iff.rfl | exact trivial | exact (fun _ _ => rfl) | exact (fun _ h => absurd h (Nat.not_lt_zero _)) | refine ⟨?_, ?_⟩ | exact Iff.rfl | exact congrArg (fun z => V.SV.one (V.At.val (Value.int .i64 z))) (by omega)))
  obtain rfl : k = fs.length := by omega
  rw [List.take_length] at *
  have nb := K.need_bd (party := a) hps h2
  have hv : M.sum (K.nds fs ps a) = K.need fs ps a := rfl
  have sof := K.sof (l := K.nds fs ps a) (by omega)
  have am : ∀ x ∈ K.nds fs ps a, M.Amt x := fun x hx => by
    obtain ⟨f, hf, rfl⟩ := List.mem_map.1 hx
    have := K.ask_bd hps (h2 f (List.mem_filter.1 hf).1)
    unfold M.Amt; omega
  have vs := v_sumof (K.nds fs ps a) (by omega) am
  repeat' ((conv => whnf); first | refine V.NCond.mk ?_ | refine V.NIf.not_ ?_ | refine V.NIf.dec_ ?_ | refine V.NIf.no (by omega) ?_ | refine V.NIf.yes (by omega) ?_ | refine V.NIf.mk (fun _ => ?_) (fun _ => ?_) | refine V.NWrap.ok (by omega) (by omega) ?_ | refine V.NWrap.u64 (by omega) (by omega) ?_ | refine V.NLt.mk (by omega) ?_ | refine V.NBoth.mk ?_ ?_ | refine V.NTF.yes (by omega) ?_ | refine V.NTF.no (by omega) ?_ | refine V.NTF.dec ?_ | refine V.NDraw.q (by exact rfl) (by kernel_rfl) ?_ | refine V.NApp.one (by first | omega | (simp; omega)) (by first | omega | (simp; omega)) ?_ | ((first | refine V.Fn.k (vs) [2] rfl ?_ ?_ | refine V.Fn.q (vs) [2] rfl ?_ ?_ | refine V.Fn.a (vs) [2] rfl ?_ ?_); · ((repeat' (first | exact rfl | exact Iff.rfl | exact trivial | exact (fun _ _ => rfl) | exact (fun _ h => absurd h (Nat.not_lt_zero _)) | refine ⟨?_, ?_⟩ | exact Iff.rfl | exact congrArg (fun z => V.SV.one (V.At.val (Value.int .i64 z))) (by omega))); done)) | (first | refine V.Fn.k0 (v_rpart _ _ _) rfl ?_ | refine V.Fn.q0 (v_rpart _ _ _) rfl ?_ | refine V.Fn.a0 (v_rpart _ _ _) rfl ?_) | (refine V.NDraw.any (by kernel_rfl) ?_) | fail)
  all_goals (conv => whnf)
  · have q := sof.2.1 (by assumption)
    have s1 := sof.1 (by assumption)
    obtain ⟨x, y⟩ := K.n_5 (party := a) (rate := b) (by assumption) hps ⟨by assumption, by assumption⟩ (by omega)
    obtain ⟨z, w⟩ := P.part_rate (n := K.need fs ps a) (r := b) (by omega) (by assumption)
    rw [s1, hv]
    exact V.fin2 ⟨by rw [y, w], by rw [x, z]⟩
  · exact V.fin2 (and_comm.1 (K.n_4 (by assumption) hps ⟨by assumption, by assumption⟩ (by
      rcases Int.lt_or_le 1152921504606846976 (K.need fs ps a) with q | q
      · exact q
      · exact absurd (sof.2.2 (by omega)) (by assumption))))
theorem v_rspare (l : List St) (ps : List Int) (need sp : Int) (at_ : Nat) (h : K.ck l ps = 0) (ha : at_ < l.length) (hb : 0 ≤ sp ∧ sp ≤ (l.getD at_ default).un) (hst : K.Stay ps (l.getD at_ default) (K.oth ps l at_) need ((l.getD at_ default).un - sp)) (hn : 0 ≤ need ∧ need ≤ 1152921504606846976) : V.Fn Try.prog 17 [.arr 3 l.length (ga encS l), .arr 1 ps.length (ga e1 ps)] [.one (.ref 0), .one (.ref 1), .one (.val (.int .i64 need)), .one (.val (.int .i64 ((at_ : Int)))), .one (.val (.int .i64 sp))] (.bool true) := by
  obtain ⟨c1, hps⟩ := K.ck_ok h
  obtain ⟨h40, hok⟩ := K.chk_ok c1
  have hs := hok _ (getD_mem ha)
  have hu := hs.2.1
  have cb := fun u hu => K.cnt_bd (u := u) hps hs hu
  have vc := fun u hu => v_rcounts (l.getD at_ default) u ps hps hs hu
  have vb := fun k => K.val_bd hps (fun s hs => hok s (List.mem_of_mem_take hs)) (l := l.take k) (by simp; omega)
  have tl := fun k => List.length_take_le k l
  refine V.Fn.mk_ V.Tok V.mixed Try.func17 rfl Try.ntmps17 (by kernel_rfl) rfl rfl ?_
  repeat' ((conv => whnf); first | refine V.NCond.mk ?_ | refine V.NIf.not_ ?_ | refine V.NIf.dec_ ?_ | refine V.NIf.no (by omega) ?_ | refine V.NIf.yes (by omega) ?_ | refine V.NIf.mk (fun _ => ?_) (fun _ => ?_) | refine V.NWrap.ok (by omega) (by omega) ?_ | refine V.NWrap.u64 (by omega) (by omega) ?_ | refine V.NLt.mk (by omega) ?_ | refine V.NBoth.mk ?_ ?_ | refine V.NTF.yes (by omega) ?_ | refine V.NTF.no (by omega) ?_ | refine V.NTF.dec ?_ | refine V.NDraw.q (by exact rfl) (by kernel_rfl) ?_ | refine V.NApp.one (by first | omega | (simp; omega)) (by first | omega | (simp; omega)) ?_ | (refine NIdx.mk ⟨at_, rfl, by omega, ?_⟩) | (refine V.NDraw.any (by kernel_rfl) ?_) | fail)
  all_goals (conv => whnf)
  refine V.NLoop.auto (fun (k : Nat) => [(12, .one (.val (.int .i64 k))), (11, .one (.val (.int .i64 (K.val ps (l.take k) - if at_ < k then K.cnt ps (l.getD at_ default) (l.getD at_ default).un else 0))))]) (fun (k : Nat) => []) [] [] (fun (k : Nat) => l.length - k) (fun (k : Nat) => k ≤ l.length) 0 (Nat.zero_le _) (by repeat' (first | exact rfl | exact Iff.rfl | exact trivial | exact (fun _ _ => rfl) | exact (fun _ h => absurd h (Nat.not_lt_zero _)) | refine ⟨?_, ?_⟩ | exact Iff.rfl | exact congrArg (fun z => V.SV.one (V.At.val (Value.int .i64 z))) (by omega))) (by repeat' (first | exact rfl | exact Iff.rfl | exact trivial | exact (fun _ _ => rfl) | exact (fun _ h => absurd h (Nat.not_lt_zero _)) | refine ⟨?_, ?_⟩ | exact Iff.rfl | exact congrArg (fun z => V.SV.one (V.At.val (Value.int .i64 z))) (by omega))) (fun _ => ⟨rfl, rfl⟩) ?_; (conv => whnf); refine ⟨⟨rfl, rfl⟩, ?_⟩
  rintro k hk
  have vbk := vb k
  have tk := tl k
  have cu := cb (l.getD at_ default).un (by omega)
  by_cases hlt : k < l.length
  · have hsk := hok _ (getD_mem hlt)
    have es := K.val_snoc (ps := ps) hlt
    have ck := K.cnt_bd (u := (l.getD k default).un) hps hsk (by have := hsk.2.1; omega)
    have vk := v_rcounts (l.getD k default) (l.getD k default).un ps hps hsk (by have := hsk.2.1; omega)
    repeat' ((conv => whnf); first | refine V.NCond.mk ?_ | refine V.NIf.not_ ?_ | refine V.NIf.dec_ ?_ | refine V.NIf.no (by omega) ?_ | refine V.NIf.yes (by omega) ?_ | refine V.NIf.mk (fun _ => ?_) (fun _ => ?_) | refine V.NWrap.ok (by omega) (by omega) ?_ | refine V.NWrap.u64 (by omega) (by omega) ?_ | refine V.NLt.mk (by omega) ?_ | refine V.NBoth.mk ?_ ?_ | refine V.NTF.yes (by omega) ?_ | refine V.NTF.no (by omega) ?_ | refine V.NTF.dec ?_ | refine V.NDraw.q (by exact rfl) (by kernel_rfl) ?_ | refine V.NApp.one (by first | omega | (simp; omega)) (by first | omega | (simp; omega)) ?_ | (refine NIdx.mk ⟨k, rfl, by omega, ?_⟩) | ((first | refine V.Fn.k (vk) [1] rfl ?_ ?_ | refine V.Fn.q (vk) [1] rfl ?_ ?_ | refine V.Fn.a (vk) [1] rfl ?_ ?_); · ((repeat' (first | exact rfl | exact Iff.rfl | exact trivial | exact (fun _ _ => rfl) | exact (fun _ h => absurd h (Nat.not_lt_zero _)) | refine ⟨?_, ?_⟩ | exact Iff.rfl | exact congrArg (fun z => V.SV.one (V.At.val (Value.int .i64 z))) (by omega))); done)) | (refine V.NWrap.ok (by split <;> omega) (by split <;> omega) ?_) | (refine V.NDraw.any (by kernel_rfl) ?_) | fail)
    all_goals (conv => whnf)
    · obtain rfl : k = at_ := by omega
      exact V.NBack.at_ (k + 1) [] (by omega) (by omega) ⟨(by repeat' (first | exact rfl | exact Iff.rfl | exact trivial | exact (fun _ _ => rfl) | exact (fun _ h => absurd h (Nat.not_lt_zero _)) | refine ⟨?_, ?_⟩ | exact Iff.rfl | exact congrArg (fun z => V.SV.one (V.At.val (Value.int .i64 z))) (by omega))), congrArg (fun z => V.SV.one (V.At.val (Value.int .i64 z))) (by rw [if_pos (Nat.lt_succ_self k), if_neg (Nat.lt_irrefl k)]; omega), trivial⟩ rfl (by repeat' (first | exact rfl | exact Iff.rfl | exact trivial | exact (fun _ _ => rfl) | exact (fun _ h => absurd h (Nat.not_lt_zero _)) | refine ⟨?_, ?_⟩ | exact Iff.rfl | exact congrArg (fun z => V.SV.one (V.At.val (Value.int .i64 z))) (by omega))) (by repeat' (first | exact rfl | exact Iff.rfl | exact trivial | exact (fun _ _ => rfl) | exact (fun _ h => absurd h (Nat.not_lt_zero _)) | refine ⟨?_, ?_⟩ | exact Iff.rfl | exact congrArg (fun z => V.SV.one (V.At.val (Value.int .i64 z))) (by omega))) (by repeat' (first | exact rfl | exact Iff.rfl | exact trivial | exact (fun _ _ => rfl) | exact (fun _ h => absurd h (Nat.not_lt_zero _)) | refine ⟨?_, ?_⟩ | exact Iff.rfl | exact congrArg (fun z => V.SV.one (V.At.val (Value.int .i64 z))) (by omega)))
    · exact V.NBack.at_ (k + 1) [] (by omega) (by omega) ⟨(by repeat' (first | exact rfl | exact Iff.rfl | exact trivial | exact (fun _ _ => rfl) | exact (fun _ h => absurd h (Nat.not_lt_zero _)) | refine ⟨?_, ?_⟩ | exact Iff.rfl | exact congrArg (fun z => V.SV.one (V.At.val (Value.int .i64 z))) (by omega))), congrArg (fun z => V.SV.one (V.At.val (Value.int .i64 z))) (by (repeat' split) <;> omega), trivial⟩ rfl (by repeat' (first | exact rfl | exact Iff.rfl | exact trivial | exact (fun _ _ => rfl) | exact (fun _ h => absurd h (Nat.not_lt_zero _)) | refine ⟨?_, ?_⟩ | exact Iff.rfl | exact congrArg (fun z => V.SV.one (V.At.val (Value.int .i64 z))) (by omega))) (by repeat' (first | exact rfl | exact Iff.rfl | exact trivial | exact (fun _ _ => rfl) | exact (fun _ h => absurd h (Nat.not_lt_zero _)) | refine ⟨?_, ?_⟩ | exact Iff.rfl | exact congrArg (fun z => V.SV.one (V.At.val (Value.int .i64 z))) (by omega))) (by repeat' (first | exact rfl | exact Iff.rfl | exact trivial | exact (fun _ _ => rfl) | exact (fun _ h => absurd h (Nat.not_lt_zero _)) | refine ⟨?_, ?_⟩ | exact Iff.rfl | exact congrArg (fun z => V.SV.one (V.At.val (Value.int .i64 z))) (by omega)))
  obtain rfl : k = l.length := by omega
  rw [List.take_length, if_pos ha] at *
  have ho : K.oth ps l at_ = K.val ps l - K.cnt ps (l.getD at_ default) (l.getD at_ default).un := rfl
  have hy := hst.y
  have hz := hst.n
  repeat' ((conv => whnf); first | (refine NIdx.mk ⟨at_, rfl, by omega, ?_⟩) | refine V.NCond.mk ?_ | refine V.NIf.not_ ?_ | refine V.NIf.dec_ ?_ | refine V.NIf.no (by omega) ?_ | refine V.NIf.yes (by omega) ?_ | refine V.NIf.mk (fun _ => ?_) (fun _ => ?_) | refine V.NWrap.ok (by omega) (by omega) ?_ | refine V.NWrap.u64 (by omega) (by omega) ?_ | refine V.NLt.mk (by omega) ?_ | refine V.NBoth.mk ?_ ?_ | refine V.NTF.yes (by omega) ?_ | refine V.NTF.no (by omega) ?_ | refine V.NTF.dec ?_ | refine V.NDraw.q (by exact rfl) (by kernel_rfl) ?_ | refine V.NApp.one (by first | omega | (simp; omega)) (by first | omega | (simp; omega)) ?_ | ((first | refine V.Fn.k (vc ((l.getD at_ default).un - sp) (by omega)) [1] rfl ?_ ?_ | refine V.Fn.q (vc ((l.getD at_ default).un - sp) (by omega)) [1] rfl ?_ ?_ | refine V.Fn.a (vc ((l.getD at_ default).un - sp) (by omega)) [1] rfl ?_ ?_); · ((repeat' (first | exact rfl | exact Iff.rfl | exact trivial | exact (fun _ _ => rfl) | exact (fun _ h => absurd h (Nat.not_lt_zero _)) | refine ⟨?_, ?_⟩ | exact Iff.rfl | exact congrArg (fun z => V.SV.one (V.At.val (Value.int .i64 z))) (by omega))); done)) | ((first | refine V.Fn.k (vc ((l.getD at_ default).un - sp - 1) (by omega)) [1] rfl ?_ ?_ | refine V.Fn.q (vc ((l.getD at_ default).un - sp - 1) (by omega)) [1] rfl ?_ ?_ | refine V.Fn.a (vc ((l.getD at_ default).un - sp - 1) (by omega)) [1] rfl ?_ ?_); · ((repeat' (first | exact rfl | exact Iff.rfl | exact trivial | exact (fun _ _ => rfl) | exact (fun _ h => absurd h (Nat.not_lt_zero _)) | refine ⟨?_, ?_⟩ | exact Iff.rfl | exact congrArg (fun z => V.SV.one (V.At.val (Value.int .i64 z))) (by omega))); done)) | (refine V.NWrap.ok (by have := cb ((l.getD at_ default).un - sp) (by omega); omega) (by have := cb ((l.getD at_ default).un - sp) (by omega); omega) ?_) | (refine V.NWrap.ok (by have := cb ((l.getD at_ default).un - sp - 1) (by omega); omega) (by have := cb ((l.getD at_ default).un - sp - 1) (by omega); omega) ?_) | (refine V.NDraw.any (by kernel_rfl) ?_) | fail)
  all_goals (conv => whnf)
  exact ⟨true, rfl, iff_of_true (by omega) rfl⟩
end Go.Proofs.Ytmmfgepmochmeaa
