/- What MarginNeed answers: true. -/
import Derived.Test.YtmmfgepmochmeaaVMarginB
import Derived.Test.YtmmfgepmochmeaaVOpenF
import Derived.Test.YtmmfgepmochmeaaVOpenI
namespace Go.Proofs.Ytmmfgepmochmeaa
open Go Go.RowKit V
set_option maxRecDepth 100000
set_option linter.unusedVariables false
set_option linter.unusedSimpArgs false
namespace K
theorem one_ok {fs : List Fl} {ps : List Int} {party rate : Int} (h : nE fs ps party rate = 0) {f : Fl} (hf : f ∈ fs) : nE [f] ps party rate = 0 ∧ nV [f] ps party rate = (if f.fr = party then P.cost (F.left f) (P.pr ps f.pa) else 0) * rate / 10000 := by
  obtain ⟨h1, h2, h3, h4, h5, h6⟩ := n_ok h
  obtain ⟨g1, g2, g3⟩ := checks_all h1
  have e : need [f] ps party = if f.fr = party then P.cost (F.left f) (P.pr ps f.pa) else 0 := by
    unfold need nds
    by_cases q : f.fr = party <;> simp [q, M.sum]
  have hb := ask_bd h2 (g2 f hf)
  have c1 : F.checks [f] = 0 := checks_of (by simp) (fun x hx => by rw [List.mem_singleton.1 hx]; exact g2 f hf) (by simp)
  have := n_5 (fs := [f]) (ps := ps) (party := party) (rate := rate) c1 h2 ⟨h3, h4⟩ (by rw [e]; split <;> omega)
  rw [e] at this
  exact this
/-- one by one -/
def ones (fs : List Fl) (ps : List Int) (party rate : Int) : Int := M.sum (fs.map fun f => (if f.fr = party then P.cost (F.left f) (P.pr ps f.pa) else 0) * rate / 10000)
theorem ones_snoc {fs : List Fl} {ps : List Int} {party rate : Int} {k : Nat} (h : k < fs.length) : ones (fs.take (k + 1)) ps party rate = ones (fs.take k) ps party rate + (if (fs.getD k default).fr = party then P.cost (F.left (fs.getD k default)) (P.pr ps (fs.getD k default).pa) else 0) * rate / 10000 := by
  unfold ones
  rw [List.take_succ_eq_append_getElem h, List.map_append, M.sum_append, getD_at h]; simp [M.sum]
theorem ones_bd {ps : List Int} {party rate : Int} (h : P.chks ps = 0) (hr : 0 ≤ rate ∧ rate ≤ 10000) : ∀ {fs : List Fl}, (∀ f ∈ fs, F.Ok f) → 0 ≤ ones fs ps party rate ∧ ones fs ps party rate ≤ need fs ps party * rate / 10000 ∧ need fs ps party * rate / 10000 ≤ ones fs ps party rate + fs.length
  | [], _ => by simp [ones, need, nds, M.sum]
  | f :: fs, hf => by
    obtain ⟨i1, i2, i3⟩ := ones_bd h hr (fs := fs) fun x hx => hf x (by simp [hx])
    have hb := ask_bd h (hf f (by simp))
    have e : need (f :: fs) ps party = (if f.fr = party then P.cost (F.left f) (P.pr ps f.pa) else 0) + need fs ps party := by
      unfold need nds
      by_cases q : f.fr = party <;> simp [q, M.sum]
    have e2 : ones (f :: fs) ps party rate = (if f.fr = party then P.cost (F.left f) (P.pr ps f.pa) else 0) * rate / 10000 + ones fs ps party rate := rfl
    have hx : 0 ≤ (if f.fr = party then P.cost (F.left f) (P.pr ps f.pa) else 0) := by split <;> omega
    generalize (if f.fr = party then P.cost (F.left f) (P.pr ps f.pa) else 0) = x at *
    have r1 := P.rate_bd hx hr
    have t := M.two (x := x * rate) (y := need fs ps party * rate) (c := 10000) (by decide)
    rw [← Int.add_mul] at t
    rw [e, e2, List.length_cons]
    generalize (x + need fs ps party) * rate = X at *
    generalize x * rate = Y at *
    generalize need fs ps party * rate = Z at *
    omega
end K
set_option maxHeartbeats 4000000 in
theorem v_marginNeed (fs : List Fl) (wf : ∀ f ∈ fs, WfF f) (ps : List Int) (wp : ∀ f ∈ ps, (Lit.int .i64 f).wf = true) (party : Int) (w_party : (Lit.int .i64 party).wf = true) (rate : Int) (w_rate : (Lit.int .i64 rate).wf = true) (more : Int) (w_more : (Lit.int .i64 more).wf = true) : V.Fn Try.prog 6 [.arr 10 fs.length (ga encF fs), .arr 1 ps.length (ga e1 ps)] [.one (.ref 0), .one (.ref 1), .one (.val (.int .i64 party)), .one (.val (.int .i64 rate)), .one (.val (.int .i64 more))] (.bool true) := by
  clear wf wp
  refine V.Fn.lim (by kernel_rfl) fun hl => ?_
  have np := hl 1 _ _ _ rfl
  clear hl
  have z1 : ¬ K.nE fs ps party rate = 0 → K.nV fs ps party rate = 0 := K.n_no
  have z2 : K.nE fs ps party rate = 0 → K.nE fs ps party more = 0 → rate ≤ more → K.nV fs ps party rate ≤ K.nV fs ps party more := fun a b c => by
    obtain ⟨h1, h2, h3, h4, h5, h6⟩ := K.n_ok a
    obtain ⟨_, _, _, g4, _, g6⟩ := K.n_ok b
    obtain ⟨q1, q2, q3⟩ := K.checks_all h1
    have nb := K.need_bd (party := party) h2 q2
    have := Int.mul_le_mul_of_nonneg_left c nb.1
    rw [h6, g6]
    generalize K.need fs ps party * rate = x at *
    generalize K.need fs ps party * more = y at *
    omega
  refine V.Fn.mk_ V.Tok V.mixed Try.func6 rfl Try.ntmps6 (by kernel_rfl) rfl rfl ?_
  repeat' ((conv => whnf); first | (refine V.NIf.yes ?_ ?_; · (simp only [true_and, and_true, and_self]; done)) | refine V.NCond.mk ?_ | refine V.NIf.not_ ?_ | refine V.NIf.dec_ ?_ | refine V.NIf.no (by omega) ?_ | refine V.NIf.yes (by omega) ?_ | refine V.NIf.mk (fun _ => ?_) (fun _ => ?_) | refine V.NWrap.ok (by omega) (by omega) ?_ | refine V.NWrap.u64 (by omega) (by omega) ?_ | refine V.NLt.mk (by omega) ?_ | refine V.NBoth.mk ?_ ?_ | refine V.NTF.yes (by omega) ?_ | refine V.NTF.no (by omega) ?_ | refine V.NTF.dec ?_ | refine V.NDraw.q (by exact rfl) (by kernel_rfl) ?_ | refine V.NApp.one (by first | omega | (simp; omega)) (by first | omega | (simp; omega)) ?_ | ((first | refine V.Fn.k (v_mgNeed fs ps party rate np) [0, 1] rfl ?_ ?_ | refine V.Fn.q (v_mgNeed fs ps party rate np) [0, 1] rfl ?_ ?_ | refine V.Fn.a (v_mgNeed fs ps party rate np) [0, 1] rfl ?_ ?_); · ((repeat' (first | exact rfl | exact Iff.rfl | exact trivial | exact (fun _ _ => rfl) | exact (fun _ h => absurd h (Nat.not_lt_zero _)) | refine ⟨?_, ?_⟩ | exact Iff.rfl | exact congrArg (fun z => V.SV.one (V.At.val (Value.int .i64 z))) (by omega))); done)) | ((first | refine V.Fn.k (v_mgNeed fs ps party more np) [0, 1] rfl ?_ ?_ | refine V.Fn.q (v_mgNeed fs ps party more np) [0, 1] rfl ?_ ?_ | refine V.Fn.a (v_mgNeed fs ps party more np) [0, 1] rfl ?_ ?_); · ((repeat' (first | exact rfl | exact Iff.rfl | exact trivial | exact (fun _ _ => rfl) | exact (fun _ h => absurd h (Nat.not_lt_zero _)) | refine ⟨?_, ?_⟩ | exact Iff.rfl | exact congrArg (fun z => V.SV.one (V.At.val (Value.int .i64 z))) (by omega))); done)) | (first | refine V.Fn.k0 (v_mgbegun) rfl ?_ | refine V.Fn.q0 (v_mgbegun) rfl ?_ | refine V.Fn.a0 (v_mgbegun) rfl ?_) | (refine V.NDraw.any (by kernel_rfl) ?_) | fail)
  all_goals (conv => whnf)
  rotate_left 3
  · exact ⟨true, rfl, iff_of_true (z1 (by assumption)) rfl⟩
  all_goals
    have hE : K.nE fs ps party rate = 0 := by assumption
    obtain ⟨h1, h2, h3, h4, h5, h6⟩ := K.n_ok hE
    obtain ⟨q1, q2, q3⟩ := K.checks_all h1
    have ob := K.ones_bd (party := party) h2 h4 q2
    have obk := fun k => K.ones_bd (party := party) h2 h4 (fs := fs.take k) fun f hf => q2 f (List.mem_of_mem_take hf)
    have nb := fun k => K.need_bd (party := party) h2 (fs := fs.take k) fun f hf => q2 f (List.mem_of_mem_take hf)
    refine V.NLoop.auto (fun (k : Nat) => [(16, .one (.val (.int .i64 k))), (15, .one (.val (.int .i64 (K.ones (fs.take k) ps party rate))))]) (fun (k : Nat) => []) [] [] (fun (k : Nat) => fs.length - k) (fun (k : Nat) => k ≤ fs.length) 0 (Nat.zero_le _) (by repeat' (first | exact rfl | exact Iff.rfl | exact trivial | exact (fun _ _ => rfl) | exact (fun _ h => absurd h (Nat.not_lt_zero _)) | refine ⟨?_, ?_⟩ | exact Iff.rfl | exact congrArg (fun z => V.SV.one (V.At.val (Value.int .i64 z))) (by omega))) (by repeat' (first | exact rfl | exact Iff.rfl | exact trivial | exact (fun _ _ => rfl) | exact (fun _ h => absurd h (Nat.not_lt_zero _)) | refine ⟨?_, ?_⟩ | exact Iff.rfl | exact congrArg (fun z => V.SV.one (V.At.val (Value.int .i64 z))) (by omega))) (fun _ => ⟨rfl, rfl⟩) ?_; (conv => whnf); refine ⟨⟨rfl, rfl⟩, ?_⟩
    rintro k hk
    have o1 := obk k
    have n1 := nb k
    have tl := List.length_take_le k fs
    by_cases hlt : k < fs.length
    · obtain ⟨e1, e2⟩ := K.one_ok hE (getD_mem hlt)
      have es := K.ones_snoc (ps := ps) (party := party) (rate := rate) hlt
      have hb := K.ask_bd h2 (q2 _ (getD_mem hlt))
      have hx : 0 ≤ (if (fs.getD k default).fr = party then P.cost (F.left (fs.getD k default)) (P.pr ps (fs.getD k default).pa) else 0) ∧ (if (fs.getD k default).fr = party then P.cost (F.left (fs.getD k default)) (P.pr ps (fs.getD k default).pa) else 0) ≤ 118059162071741130 := by split <;> omega
      have r1 := P.rate_bd hx.1 h4
      have hz : (fs.getD k default).fr ≠ party → K.nV [fs.getD k default] ps party rate = 0 := fun q => by rw [e2, if_neg q]; simp
      have vn := v_mgNeed [fs.getD k default] ps party rate np
      rw [e1] at vn
      rw [← e2] at es r1
      have r2 := And.intro r1.1 (Int.le_trans r1.2 hx.2)
      have o2 := (P.rate_bd n1.1 h4).2
      generalize K.nV [fs.getD k default] ps party rate = x at *
      have ht : ∀ j, j < k + 1 - k → ga encF fs (k + j) = ga encF [fs.getD k default] j := fun j hj => by
        obtain rfl : j = 0 := by omega
        rfl
      have hln : k + 1 - k = [fs.getD k default].length := by show k + 1 - k = 1; omega
      repeat' ((conv => whnf); first | refine V.NCond.mk ?_ | refine V.NIf.not_ ?_ | refine V.NIf.dec_ ?_ | refine V.NIf.no (by omega) ?_ | refine V.NIf.yes (by omega) ?_ | refine V.NIf.mk (fun _ => ?_) (fun _ => ?_) | refine V.NWrap.ok (by omega) (by omega) ?_ | refine V.NWrap.u64 (by omega) (by omega) ?_ | refine V.NLt.mk (by omega) ?_ | refine V.NBoth.mk ?_ ?_ | refine V.NTF.yes (by omega) ?_ | refine V.NTF.no (by omega) ?_ | refine V.NTF.dec ?_ | refine V.NDraw.q (by exact rfl) (by kernel_rfl) ?_ | refine V.NApp.one (by first | omega | (simp; omega)) (by first | omega | (simp; omega)) ?_ | (refine V.NWrap.ok (by clear ob obk nb e2 es hb; omega) (by clear ob obk nb e2 es hb; omega) ?_) | (refine NCut.mk ⟨k, k + 1, rfl, by dsimp only [hiIs]; omega, by omega, by omega, ?_⟩) | ((refine V.Fn.k vn [2, 1] rfl ?_ ?_); · exact ⟨⟨rfl, hln, ht⟩, ⟨rfl, rfl, fun _ _ => rfl⟩, trivial⟩) | (refine NIdx.mk ⟨k, rfl, by omega, ?_⟩) | (refine V.NDraw.any (by kernel_rfl) ?_) | fail)
      all_goals (conv => whnf)
      all_goals exact V.NBack.at_ (k + 1) [] (by omega) (by omega) ⟨(by repeat' (first | exact rfl | exact Iff.rfl | exact trivial | exact (fun _ _ => rfl) | exact (fun _ h => absurd h (Nat.not_lt_zero _)) | refine ⟨?_, ?_⟩ | exact Iff.rfl | exact congrArg (fun z => V.SV.one (V.At.val (Value.int .i64 z))) (by omega))), congrArg (fun z => V.SV.one (V.At.val (Value.int .i64 z))) es.symm, trivial⟩ rfl (by repeat' (first | exact rfl | exact Iff.rfl | exact trivial | exact (fun _ _ => rfl) | exact (fun _ h => absurd h (Nat.not_lt_zero _)) | refine ⟨?_, ?_⟩ | exact Iff.rfl | exact congrArg (fun z => V.SV.one (V.At.val (Value.int .i64 z))) (by omega))) (by repeat' (first | exact rfl | exact Iff.rfl | exact trivial | exact (fun _ _ => rfl) | exact (fun _ h => absurd h (Nat.not_lt_zero _)) | refine ⟨?_, ?_⟩ | exact Iff.rfl | exact congrArg (fun z => V.SV.one (V.At.val (Value.int .i64 z))) (by omega))) (by repeat' (first | exact rfl | exact Iff.rfl | exact trivial | exact (fun _ _ => rfl) | exact (fun _ h => absurd h (Nat.not_lt_zero _)) | refine ⟨?_, ?_⟩ | exact Iff.rfl | exact congrArg (fun z => V.SV.one (V.At.val (Value.int .i64 z))) (by omega)))
    obtain rfl : k = fs.length := by omega
    rw [List.take_length] at *
    have o2 := (P.rate_bd n1.1 h4).2
    rw [← h6] at ob o2
    clear obk nb o1 n1
    repeat' ((conv => whnf); first | refine V.NCond.mk ?_ | refine V.NIf.not_ ?_ | refine V.NIf.dec_ ?_ | refine V.NIf.no (by omega) ?_ | refine V.NIf.yes (by omega) ?_ | refine V.NIf.mk (fun _ => ?_) (fun _ => ?_) | refine V.NWrap.ok (by omega) (by omega) ?_ | refine V.NWrap.u64 (by omega) (by omega) ?_ | refine V.NLt.mk (by omega) ?_ | refine V.NBoth.mk ?_ ?_ | refine V.NTF.yes (by omega) ?_ | refine V.NTF.no (by omega) ?_ | refine V.NTF.dec ?_ | refine V.NDraw.q (by exact rfl) (by kernel_rfl) ?_ | refine V.NApp.one (by first | omega | (simp; omega)) (by first | omega | (simp; omega)) ?_ | (refine V.NDraw.any (by kernel_rfl) ?_) | fail)
    all_goals (conv => whnf)
    all_goals exact ⟨true, rfl, iff_of_true (by omega) rfl⟩
end Go.Proofs.Ytmmfgepmochmeaa
