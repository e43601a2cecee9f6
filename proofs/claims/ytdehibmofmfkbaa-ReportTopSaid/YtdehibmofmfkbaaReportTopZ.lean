/- The statement of ReportTop: the call returns true for every input, and its input reads as it did. No condition. -/
import Derived.Test.YtdehibmofmfkbaaRows
import Derived.WalkKit
import Derived.ProofKit
import Derived.OpenShut
import Derived.Test.YtdehibmofmfkbaaZ1
import Derived.Test.YtdehibmofmfkbaaZ2
import Derived.Test.YtdehibmofmfkbaaZ3
import Derived.Test.YtdehibmofmfkbaaZ4
import Derived.Test.YtdehibmofmfkbaaZ5
set_option linter.unusedVariables false
set_option linter.unusedSimpArgs false
set_option linter.unusedSectionVars false
set_option maxRecDepth 100000

/- What ReportTop answers: true. -/
namespace Go.Proofs.Ytdehibmofmfkbaa
open Go Go.RowKit V
set_option maxRecDepth 100000
set_option linter.unusedVariables false
set_option linter.unusedSimpArgs false
/-- is a number in a list? -/
theorem v_has (l : List Int) (n : Int) (hl : l.length ≤ 9223372036854775807) : V.Fn Try.prog 23 [.arr 1 l.length (ga e1 l)] [.one (.ref 0), .one (.val (.int .i64 n))] (.bool (decide (n ∈ l))) := by
  by_cases hm : n ∈ l
  · rw [decide_eq_true hm]
    refine V.Fn.mk_ V.Tok V.mixed Try.func23 rfl Try.ntmps23 (by kernel_rfl) rfl rfl ?_
    repeat' ((conv => whnf); first | refine V.NCond.mk ?_ | refine V.NPick.l ?_ | refine V.NIf.not_ ?_ | refine V.NIf.dec_ ?_ | refine V.a4 ?_ | refine V.a5 ?_ | refine V.NIf.mk (fun _ => ?_) (fun _ => ?_) | refine V.a7 ?_ | refine V.a8 ?_ | refine V.a9 ?_ | refine V.NBoth.mk ?_ ?_ | refine V.b1 ?_ | refine V.b2 ?_ | refine V.NTF.dec ?_ | refine V.b3 ?_ | refine V.b4 ?_ | (refine V.NDraw.any (by kernel_rfl) ?_) | fail)
    all_goals (conv => whnf)
    refine V.NLoop.auto (fun (k : Nat) => [(5, .one (.val (.int .i64 k)))]) (fun (k : Nat) => []) [] [] (fun (k : Nat) => l.length - k) (fun (k : Nat) => k ≤ l.length ∧ ∀ j, j < k → l.getD j default ≠ n) 0 ⟨Nat.zero_le _, fun j h => absurd h (Nat.not_lt_zero _)⟩ V.S_ V.S_ (fun _ => ⟨rfl, rfl⟩) ?_; (conv => whnf); refine ⟨⟨rfl, rfl⟩, ?_⟩
    rintro k ⟨hk, hj⟩
    by_cases hlt : k < l.length
    · by_cases e : l.getD k default = n
      · repeat' ((conv => whnf); first | (refine V.NIf.yes ?_ ?_; · (exact e; done)) | (refine V.NIf.no ?_ ?_; · (exact e; done)) | refine V.NCond.mk ?_ | refine V.NPick.l ?_ | refine V.NIf.not_ ?_ | refine V.NIf.dec_ ?_ | refine V.a4 ?_ | refine V.a5 ?_ | refine V.NIf.mk (fun _ => ?_) (fun _ => ?_) | refine V.a7 ?_ | refine V.a8 ?_ | refine V.a9 ?_ | refine V.NBoth.mk ?_ ?_ | refine V.b1 ?_ | refine V.b2 ?_ | refine V.NTF.dec ?_ | refine V.b3 ?_ | refine V.b4 ?_ | (refine NIdx.mk ⟨k, rfl, by omega, ?_⟩) | (refine V.NDraw.any (by kernel_rfl) ?_) | fail)
        all_goals (conv => whnf)
        all_goals rfl
      · repeat' ((conv => whnf); first | (refine V.NIf.yes ?_ ?_; · (exact e; done)) | (refine V.NIf.no ?_ ?_; · (exact e; done)) | refine V.NCond.mk ?_ | refine V.NPick.l ?_ | refine V.NIf.not_ ?_ | refine V.NIf.dec_ ?_ | refine V.a4 ?_ | refine V.a5 ?_ | refine V.NIf.mk (fun _ => ?_) (fun _ => ?_) | refine V.a7 ?_ | refine V.a8 ?_ | refine V.a9 ?_ | refine V.NBoth.mk ?_ ?_ | refine V.b1 ?_ | refine V.b2 ?_ | refine V.NTF.dec ?_ | refine V.b3 ?_ | refine V.b4 ?_ | (refine NIdx.mk ⟨k, rfl, by omega, ?_⟩) | (refine V.NDraw.any (by kernel_rfl) ?_) | fail)
        all_goals (conv => whnf)
        all_goals exact V.NBack.at_ (k + 1) [] ⟨by omega, fun j h => by
          rcases Nat.lt_or_ge j k with q | q
          · exact hj j q
          · obtain rfl : j = k := by omega
            exact e⟩ (by omega) V.S_ rfl V.S_ V.S_ V.S_
    · exfalso
      obtain ⟨j, h1, h2⟩ := List.getElem_of_mem hm
      exact hj j (by omega) (by rw [getD_at h1]; exact h2)
  · rw [decide_eq_false hm]
    refine V.Fn.mk_ V.Tok V.mixed Try.func23 rfl Try.ntmps23 (by kernel_rfl) rfl rfl ?_
    repeat' ((conv => whnf); first | refine V.NCond.mk ?_ | refine V.NPick.l ?_ | refine V.NIf.not_ ?_ | refine V.NIf.dec_ ?_ | refine V.a4 ?_ | refine V.a5 ?_ | refine V.NIf.mk (fun _ => ?_) (fun _ => ?_) | refine V.a7 ?_ | refine V.a8 ?_ | refine V.a9 ?_ | refine V.NBoth.mk ?_ ?_ | refine V.b1 ?_ | refine V.b2 ?_ | refine V.NTF.dec ?_ | refine V.b3 ?_ | refine V.b4 ?_ | (refine V.NDraw.any (by kernel_rfl) ?_) | fail)
    all_goals (conv => whnf)
    refine V.NLoop.auto (fun (k : Nat) => [(5, .one (.val (.int .i64 k)))]) (fun (k : Nat) => []) [] [] (fun (k : Nat) => l.length - k) (fun (k : Nat) => k ≤ l.length) 0 (Nat.zero_le _) V.S_ V.S_ (fun _ => ⟨rfl, rfl⟩) ?_; (conv => whnf); refine ⟨⟨rfl, rfl⟩, ?_⟩
    rintro k hk
    by_cases hlt : k < l.length
    · have e : ¬ l.getD k default = n := fun e => hm (e ▸ getD_mem hlt)
      repeat' ((conv => whnf); first | (refine V.NIf.yes ?_ ?_; · (exact e; done)) | (refine V.NIf.no ?_ ?_; · (exact e; done)) | refine V.NCond.mk ?_ | refine V.NPick.l ?_ | refine V.NIf.not_ ?_ | refine V.NIf.dec_ ?_ | refine V.a4 ?_ | refine V.a5 ?_ | refine V.NIf.mk (fun _ => ?_) (fun _ => ?_) | refine V.a7 ?_ | refine V.a8 ?_ | refine V.a9 ?_ | refine V.NBoth.mk ?_ ?_ | refine V.b1 ?_ | refine V.b2 ?_ | refine V.NTF.dec ?_ | refine V.b3 ?_ | refine V.b4 ?_ | (refine NIdx.mk ⟨k, rfl, by omega, ?_⟩) | (refine V.NDraw.any (by kernel_rfl) ?_) | fail)
      all_goals (conv => whnf)
      all_goals exact V.NBack.at_ (k + 1) [] (by omega) (by omega) V.S_ rfl V.S_ V.S_ V.S_
    · repeat' ((conv => whnf); first | refine V.NCond.mk ?_ | refine V.NPick.l ?_ | refine V.NIf.not_ ?_ | refine V.NIf.dec_ ?_ | refine V.a4 ?_ | refine V.a5 ?_ | refine V.NIf.mk (fun _ => ?_) (fun _ => ?_) | refine V.a7 ?_ | refine V.a8 ?_ | refine V.a9 ?_ | refine V.NBoth.mk ?_ ?_ | refine V.b1 ?_ | refine V.b2 ?_ | refine V.NTF.dec ?_ | refine V.b3 ?_ | refine V.b4 ?_ | (refine V.NDraw.any (by kernel_rfl) ?_) | fail)
      all_goals (conv => whnf)
      all_goals rfl
/-- what the last one weighed -/
def Rp.la (T : List Wt) (i : Nat) : Int := if i = 0 then -1 else (T.getD (i - 1) default).wo
theorem Rp.la_0 (T : List Wt) : Rp.la T 0 = -1 := rfl
theorem Rp.la_s (T : List Wt) (i : Nat) : Rp.la T (i + 1) = (T.getD i default).wo := rfl
structure Rp.TopF (pr : List Int) (l : List Fl) (m : Nat) (T : List Wt) : Prop where
  a : ∀ i, i < T.length → ∃ k : Nat, k < l.length ∧ F.idx (T.getD i default).id l 0 = k ∧ 0 < F.left (l.getD k default) ∧ (Rp.wt pr (l.getD k default)).wo = (T.getD i default).wo
  d : ∀ i, i < T.length → 0 < i → (T.getD i default).wo ≤ Rp.la T i
  c : ∀ i, i < l.length → 0 < F.left (l.getD i default) → ¬ (l.getD i default).id ∈ T.map (·.id) → T.length = m ∧ (1 ≤ m → (Rp.wt pr (l.getD i default)).wo ≤ Rp.la T m)
  n : T.length ≤ m
theorem Rp.take_at {T : List Wt} {m i : Nat} (h : i < (T.take m).length) : (T.take m).getD i default = T.getD i default := by
  have h2 := h
  rw [List.length_take] at h2
  rw [getD_at h, getD_at (by omega), List.getElem_take]
theorem Rp.topF {pr : List Int} {l : List Fl} (nd : (l.map (·.id)).Nodup) (m : Nat) : Rp.TopF pr l m ((Rp.tp pr l).take m) := by
  have hl : ((Rp.tp pr l).take m).length = min m (Rp.tp pr l).length := List.length_take
  refine ⟨fun i hi => ?_, fun i hi h0 => ?_, fun i hi ho hn => ?_, by omega⟩
  · obtain ⟨k, q1, q2, q3, q4⟩ := Rp.tp_at (pr := pr) nd (i := i) (by omega)
    rw [Rp.take_at hi]
    exact ⟨k, q1, q2, q3, by rw [q4]⟩
  · obtain ⟨j, rfl⟩ : ∃ j, i = j + 1 := ⟨i - 1, by omega⟩
    rw [Rp.la_s, Rp.take_at hi, Rp.take_at (by omega)]
    exact Rp.tp_down (by omega) (by omega)
  · have q := Rp.tp_out (pr := pr) (m := m) (getD_mem hi) ho (fun ⟨j, h1, h2, h3⟩ => hn (by
      rw [← h3, ← Rp.take_at (m := m) (by omega)]
      exact List.mem_map.2 ⟨_, getD_mem (by omega), rfl⟩))
    refine ⟨by omega, fun h1 => ?_⟩
    obtain ⟨j, rfl⟩ : ∃ j, m = j + 1 := ⟨m - 1, by omega⟩
    rw [Rp.la_s, Rp.take_at (by omega)]
    exact q.2 h1
set_option maxHeartbeats 4000000 in
theorem v_reportTop (l : List Fl) (wl : ∀ f ∈ l, WfF f) (pr : List Int) (wp : ∀ f ∈ pr, (Lit.int .i64 f).wf = true) (many : Int) (w_many : (Lit.int .i64 many).wf = true) (fewer : Int) (w_fewer : (Lit.int .i64 fewer).wf = true) : V.Fn Try.prog 5 [.arr 10 l.length (ga encF l), .arr 1 pr.length (ga e1 pr)] [.one (.ref 0), .one (.ref 1), .one (.val (.int .i64 many)), .one (.val (.int .i64 fewer))] (.bool true) := by
  refine V.Fn.lim (by kernel_rfl) fun hl => ?_
  have hp := hl 1 _ _ _ rfl
  clear hl wl wp
  have c1 := v_top l pr many hp
  have c2 := v_top l pr fewer hp
  by_cases h : Rp.tE l pr many = 0
  · obtain ⟨h1, h2, h3, h4⟩ := Rp.tE_ok h
    rw [Rp.tV_yes h, h] at c1
    have nd := Rp.ids_nd h1
    have ok := Pn.all_ok h1
    have n60 := F.checks_len (l := l) (by omega)
    obtain ⟨m, rfl⟩ : ∃ m : Nat, many = m := ⟨many.toNat, by omega⟩
    rw [Int.toNat_natCast] at c1
    have tf := Rp.topF (pr := pr) nd m
    have fw : Rp.tE l pr fewer = 0 → fewer ≤ m → ∃ q : Nat, fewer = q ∧ q ≤ m ∧ Rp.tV l pr fewer = ((Rp.tp pr l).take m |>.take q).map (·.id) := fun g hq => by
      obtain ⟨_, _, g1, g2⟩ := Rp.tE_ok g
      refine ⟨fewer.toNat, by omega, by omega, ?_⟩
      rw [Rp.tV_yes g, List.take_take, Nat.min_eq_left (by omega)]
    generalize (Rp.tp pr l).take m = T at *
    obtain ⟨L, eL⟩ : ∃ L, L = T.map (·.id) := ⟨_, rfl⟩
    have lL : L.length = T.length := by rw [eL, List.length_map]
    have aL : ∀ i, i < T.length → L.getD i default = (T.getD i default).id := fun i hi => by
      rw [getD_at (by omega), getD_at hi]; simp [eL]
    have kL : ∀ q : Nat, (T.take q).map (·.id) = L.take q := fun q => by rw [eL, List.map_take]
    obtain ⟨fa, fd, fc, fn⟩ := tf
    rw [← eL] at c1 fc
    clear eL
    have cf := fun id => v_rffind l id (by omega)
    have ch := fun n => v_has L n (by omega)
    refine V.Fn.mk_ V.Tok V.mixed Try.func5 rfl Try.ntmps5 (by kernel_rfl) rfl rfl ?_
    repeat' ((conv => whnf); first | (refine V.NIf.yes ?_ ?_; · (decide; done)) | (refine V.NIf.no ?_ ?_; · (decide; done)) | (refine V.NIf.yes ?_ ?_; · (omega; done)) | (refine V.NIf.no ?_ ?_; · (omega; done)) | refine V.NCond.mk ?_ | refine V.NPick.l ?_ | refine V.NIf.not_ ?_ | refine V.NIf.dec_ ?_ | refine V.a4 ?_ | refine V.a5 ?_ | refine V.NIf.mk (fun _ => ?_) (fun _ => ?_) | refine V.a7 ?_ | refine V.a8 ?_ | refine V.a9 ?_ | refine V.NBoth.mk ?_ ?_ | refine V.b1 ?_ | refine V.b2 ?_ | refine V.NTF.dec ?_ | refine V.b3 ?_ | refine V.b4 ?_ | ((first | refine V.FnR.k_ (c1) [0, 1] rfl ?_ ?_ | refine V.FnR.a_ (c1) [0, 1] rfl ?_ ?_); · exact V.D_) | (first | refine V.Fn.k0 (v_repBegun) rfl ?_ | refine V.Fn.q0 (v_repBegun) rfl ?_ | refine V.Fn.a0 (v_repBegun) rfl ?_) | (refine V.NDraw.any (by kernel_rfl) ?_) | fail)
    all_goals (conv => whnf)
    refine V.NLoop.auto (fun (i : Nat) => [(12, .one (.val (.int .i64 i))), (11, .one (.val (.int .i64 (Rp.la T i))))]) (fun (i : Nat) => []) [] [] (fun (i : Nat) => L.length - i) (fun (i : Nat) => i ≤ L.length) 0 (Nat.zero_le _) V.S_ V.S_ (fun _ => ⟨rfl, rfl⟩) ?_; (conv => whnf); refine ⟨⟨rfl, rfl⟩, ?_⟩
    rintro i hi
    by_cases hlt : i < L.length
    · obtain ⟨k, k1, k2, k3, k4⟩ := fa i (by omega)
      have o := ok _ (getD_mem k1)
      have c3 := cf (L.getD i default)
      have al := aL i (by omega)
      rw [show F.idx (L.getD i default) l 0 = k by rw [al]; exact k2] at c3
      have c4 := v_rfopen (l.getD k default) ⟨o.1, o.2.2.1⟩
      have c5 := v_worth (l.getD k default) pr o h2
      have d1 := fd i (by omega)
      have l0 := Rp.la_0 T
      have ls := Rp.la_s T i
      rw [k4] at c5
      generalize hw : (T.getD i default).wo = wo at *
      generalize (T.getD i default).id = id at *
      have l1 : i = 0 → Rp.la T i = -1 := fun q => by rw [q]; exact l0
      clear fw fa fc fd ch cf aL kL
      repeat' ((conv => whnf); first | (refine V.NIf.yes ?_ ?_; · (decide; done)) | (refine V.NIf.no ?_ ?_; · (decide; done)) | (refine V.NIf.yes ?_ ?_; · (omega; done)) | (refine V.NIf.no ?_ ?_; · (omega; done)) | refine V.NCond.mk ?_ | refine V.NPick.l ?_ | refine V.NIf.not_ ?_ | refine V.NIf.dec_ ?_ | refine V.a4 ?_ | refine V.a5 ?_ | refine V.NIf.mk (fun _ => ?_) (fun _ => ?_) | refine V.a7 ?_ | refine V.a8 ?_ | refine V.a9 ?_ | refine V.NBoth.mk ?_ ?_ | refine V.b1 ?_ | refine V.b2 ?_ | refine V.NTF.dec ?_ | refine V.b3 ?_ | refine V.b4 ?_ | (refine NIdx.mk ⟨i, rfl, by omega, ?_⟩) | (refine NIdx.mk ⟨k, rfl, by omega, ?_⟩) | ((first | refine V.Fn.k (c3) [0] rfl ?_ ?_ | refine V.Fn.q (c3) [0] rfl ?_ ?_ | refine V.Fn.a (c3) [0] rfl ?_ ?_); · exact V.D_) | (first | refine V.Fn.k0 (c4) rfl ?_ | refine V.Fn.q0 (c4) rfl ?_ | refine V.Fn.a0 (c4) rfl ?_) | ((first | refine V.Fn.k (c5) [1] rfl ?_ ?_ | refine V.Fn.q (c5) [1] rfl ?_ ?_ | refine V.Fn.a (c5) [1] rfl ?_ ?_); · exact V.D_) | (refine V.NDraw.any (by kernel_rfl) ?_) | fail)
      all_goals (conv => whnf)
      all_goals first | exact V.NBack.at_ (i + 1) [] (by omega) (by omega) ⟨V.S_, ⟨congrArg (fun z => V.SV.one (V.At.val (Value.int .i64 z))) (by omega), trivial⟩⟩ rfl V.S_ V.S_ V.S_
    · obtain rfl : i = L.length := by omega
      repeat' ((conv => whnf); first | (refine V.NIf.yes ?_ ?_; · (decide; done)) | (refine V.NIf.no ?_ ?_; · (decide; done)) | (refine V.NIf.yes ?_ ?_; · (omega; done)) | (refine V.NIf.no ?_ ?_; · (omega; done)) | refine V.NCond.mk ?_ | refine V.NPick.l ?_ | refine V.NIf.not_ ?_ | refine V.NIf.dec_ ?_ | refine V.a4 ?_ | refine V.a5 ?_ | refine V.NIf.mk (fun _ => ?_) (fun _ => ?_) | refine V.a7 ?_ | refine V.a8 ?_ | refine V.a9 ?_ | refine V.NBoth.mk ?_ ?_ | refine V.b1 ?_ | refine V.b2 ?_ | refine V.NTF.dec ?_ | refine V.b3 ?_ | refine V.b4 ?_ | (refine V.NDraw.any (by kernel_rfl) ?_) | fail)
      all_goals (conv => whnf)
      refine V.NLoop.auto (fun (i : Nat) => [(14, .one (.val (.int .i64 i)))]) (fun (i : Nat) => []) [] [] (fun (i : Nat) => l.length - i) (fun (i : Nat) => i ≤ l.length) 0 (Nat.zero_le _) V.S_ V.S_ (fun _ => ⟨rfl, rfl⟩) ?_; (conv => whnf); refine ⟨⟨rfl, rfl⟩, ?_⟩
      rintro i hi
      by_cases hlt : i < l.length
      · have o := ok _ (getD_mem hlt)
        have c3 := ch (l.getD i default).id
        have c4 := v_rfopen (l.getD i default) ⟨o.1, o.2.2.1⟩
        have c5 := v_worth (l.getD i default) pr o h2
        have d1 := fc i hlt
        clear fw fa fc fd ch cf aL kL
        by_cases hm : (l.getD i default).id ∈ L
        · rw [decide_eq_true hm] at c3
          repeat' ((conv => whnf); first | (refine V.NIf.yes ?_ ?_; · (decide; done)) | (refine V.NIf.no ?_ ?_; · (decide; done)) | (refine V.NIf.yes ?_ ?_; · (omega; done)) | (refine V.NIf.no ?_ ?_; · (omega; done)) | refine V.NCond.mk ?_ | refine V.NPick.l ?_ | refine V.NIf.not_ ?_ | refine V.NIf.dec_ ?_ | refine V.a4 ?_ | refine V.a5 ?_ | refine V.NIf.mk (fun _ => ?_) (fun _ => ?_) | refine V.a7 ?_ | refine V.a8 ?_ | refine V.a9 ?_ | refine V.NBoth.mk ?_ ?_ | refine V.b1 ?_ | refine V.b2 ?_ | refine V.NTF.dec ?_ | refine V.b3 ?_ | refine V.b4 ?_ | (refine NIdx.mk ⟨i, rfl, by omega, ?_⟩) | ((first | refine V.Fn.k (c3) [2] rfl ?_ ?_ | refine V.Fn.q (c3) [2] rfl ?_ ?_ | refine V.Fn.a (c3) [2] rfl ?_ ?_); · exact V.D_) | (first | refine V.Fn.k0 (c4) rfl ?_ | refine V.Fn.q0 (c4) rfl ?_ | refine V.Fn.a0 (c4) rfl ?_) | ((first | refine V.Fn.k (c5) [1] rfl ?_ ?_ | refine V.Fn.q (c5) [1] rfl ?_ ?_ | refine V.Fn.a (c5) [1] rfl ?_ ?_); · exact V.D_) | (refine V.NDraw.any (by kernel_rfl) ?_) | fail)
          all_goals (conv => whnf)
          all_goals first | exact V.NBack.at_ (i + 1) [] (by omega) (by omega) V.S_ rfl V.S_ V.S_ V.S_
        · rw [decide_eq_false hm] at c3
          have d1 := fun z => d1 z hm
          repeat' ((conv => whnf); first | (refine V.NIf.yes ?_ ?_; · (decide; done)) | (refine V.NIf.no ?_ ?_; · (decide; done)) | (refine V.NIf.yes ?_ ?_; · (omega; done)) | (refine V.NIf.no ?_ ?_; · (omega; done)) | refine V.NCond.mk ?_ | refine V.NPick.l ?_ | refine V.NIf.not_ ?_ | refine V.NIf.dec_ ?_ | refine V.a4 ?_ | refine V.a5 ?_ | refine V.NIf.mk (fun _ => ?_) (fun _ => ?_) | refine V.a7 ?_ | refine V.a8 ?_ | refine V.a9 ?_ | refine V.NBoth.mk ?_ ?_ | refine V.b1 ?_ | refine V.b2 ?_ | refine V.NTF.dec ?_ | refine V.b3 ?_ | refine V.b4 ?_ | (refine NIdx.mk ⟨i, rfl, by omega, ?_⟩) | ((first | refine V.Fn.k (c3) [2] rfl ?_ ?_ | refine V.Fn.q (c3) [2] rfl ?_ ?_ | refine V.Fn.a (c3) [2] rfl ?_ ?_); · exact V.D_) | (first | refine V.Fn.k0 (c4) rfl ?_ | refine V.Fn.q0 (c4) rfl ?_ | refine V.Fn.a0 (c4) rfl ?_) | ((first | refine V.Fn.k (c5) [1] rfl ?_ ?_ | refine V.Fn.q (c5) [1] rfl ?_ ?_ | refine V.Fn.a (c5) [1] rfl ?_ ?_); · exact V.D_) | (refine V.NDraw.any (by kernel_rfl) ?_) | fail)
          all_goals (conv => whnf)
          all_goals first
            | exact V.NBack.at_ (i + 1) [] (by omega) (by omega) V.S_ rfl V.S_ V.S_ V.S_
            | (rename_i x0 x1 x2
               exfalso
               obtain ⟨q1, q2⟩ := d1 x0
               rw [show L.length = m by omega] at x2
               have := q2 (by omega)
               omega)
            | (rename_i x0 x1
               exfalso
               obtain ⟨q1, q2⟩ := d1 x0
               omega)
      · obtain rfl : i = l.length := by omega
        by_cases hg : Rp.tE l pr fewer = 0
        · by_cases hq : fewer ≤ m
          · obtain ⟨q, q1, q2, q3⟩ := fw hg hq
            rw [q3, kL q, hg] at c2
            have lt : (L.take q).length ≤ L.length := by rw [List.length_take]; omega
            have sm := v_sameints (L.take q) (L.take q) (by omega)
            rw [decide_eq_true rfl] at sm
            have gt : ∀ k, k < (L.take q).length → ga e1 L (0 + k) = ga e1 (L.take q) k := fun k hk => by
              rw [List.length_take] at hk
              rw [Nat.zero_add]
              by_cases c : q ≤ L.length
              · exact (V.ga_take (by omega) c).symm
              · rw [List.take_of_length_le (by omega)]
            generalize L.take q = S at *
            clear fw fa fc fd ch cf aL kL
            repeat' ((conv => whnf); first | (refine V.NIf.yes ?_ ?_; · (decide; done)) | (refine V.NIf.no ?_ ?_; · (decide; done)) | (refine V.NIf.yes ?_ ?_; · (omega; done)) | (refine V.NIf.no ?_ ?_; · (omega; done)) | refine V.NCond.mk ?_ | refine V.NPick.l ?_ | refine V.NIf.not_ ?_ | refine V.NIf.dec_ ?_ | refine V.a4 ?_ | refine V.a5 ?_ | refine V.NIf.mk (fun _ => ?_) (fun _ => ?_) | refine V.a7 ?_ | refine V.a8 ?_ | refine V.a9 ?_ | refine V.NBoth.mk ?_ ?_ | refine V.b1 ?_ | refine V.b2 ?_ | refine V.NTF.dec ?_ | refine V.b3 ?_ | refine V.b4 ?_ | ((first | refine V.FnR.k_ (c2) [0, 1] rfl ?_ ?_ | refine V.FnR.a_ (c2) [0, 1] rfl ?_ ?_); · exact V.D_) | (refine NCut.mk ⟨0, S.length, rfl, rfl, by omega, by omega, ?_⟩) | ((first | refine V.Fn.k (sm) [3, 4] rfl ?_ ?_ | refine V.Fn.q (sm) [3, 4] rfl ?_ ?_ | refine V.Fn.a (sm) [3, 4] rfl ?_ ?_); · exact (show _ from ⟨⟨rfl, rfl, fun k hk => rfl⟩, ⟨rfl, rfl, fun k hk => gt k hk⟩, trivial⟩)) | (refine V.NDraw.any (by kernel_rfl) ?_) | fail)
            all_goals (conv => whnf)
          · clear fw fa fc fd ch cf aL kL
            repeat' ((conv => whnf); first | (refine V.NIf.yes ?_ ?_; · (decide; done)) | (refine V.NIf.no ?_ ?_; · (decide; done)) | (refine V.NIf.yes ?_ ?_; · (omega; done)) | (refine V.NIf.no ?_ ?_; · (omega; done)) | refine V.NCond.mk ?_ | refine V.NPick.l ?_ | refine V.NIf.not_ ?_ | refine V.NIf.dec_ ?_ | refine V.a4 ?_ | refine V.a5 ?_ | refine V.NIf.mk (fun _ => ?_) (fun _ => ?_) | refine V.a7 ?_ | refine V.a8 ?_ | refine V.a9 ?_ | refine V.NBoth.mk ?_ ?_ | refine V.b1 ?_ | refine V.b2 ?_ | refine V.NTF.dec ?_ | refine V.b3 ?_ | refine V.b4 ?_ | ((first | refine V.FnR.k_ (c2) [0, 1] rfl ?_ ?_ | refine V.FnR.a_ (c2) [0, 1] rfl ?_ ?_); · exact V.D_) | (refine V.NDraw.any (by kernel_rfl) ?_) | fail)
            all_goals (conv => whnf)
        · clear fw fa fc fd ch cf aL kL
          generalize Rp.tE l pr fewer = w at *
          repeat' ((conv => whnf); first | (refine V.NIf.yes ?_ ?_; · (exact hg; done)) | (refine V.NIf.no ?_ ?_; · (exact hg; done)) | (refine V.NIf.yes ?_ ?_; · (decide; done)) | (refine V.NIf.no ?_ ?_; · (decide; done)) | (refine V.NIf.yes ?_ ?_; · (omega; done)) | (refine V.NIf.no ?_ ?_; · (omega; done)) | refine V.NCond.mk ?_ | refine V.NPick.l ?_ | refine V.NIf.not_ ?_ | refine V.NIf.dec_ ?_ | refine V.a4 ?_ | refine V.a5 ?_ | refine V.NIf.mk (fun _ => ?_) (fun _ => ?_) | refine V.a7 ?_ | refine V.a8 ?_ | refine V.a9 ?_ | refine V.NBoth.mk ?_ ?_ | refine V.b1 ?_ | refine V.b2 ?_ | refine V.NTF.dec ?_ | refine V.b3 ?_ | refine V.b4 ?_ | ((first | refine V.FnR.k_ (c2) [0, 1] rfl ?_ ?_ | refine V.FnR.a_ (c2) [0, 1] rfl ?_ ?_); · exact V.D_) | (refine V.NDraw.any (by kernel_rfl) ?_) | fail)
          all_goals (conv => whnf)
  · rw [Rp.tV_no h] at c1
    generalize Rp.tE l pr many = w at *
    refine V.Fn.mk_ V.Tok V.mixed Try.func5 rfl Try.ntmps5 (by kernel_rfl) rfl rfl ?_
    repeat' ((conv => whnf); first | (refine V.NIf.yes ?_ ?_; · (decide; done)) | (refine V.NIf.no ?_ ?_; · (decide; done)) | (refine V.NIf.yes ?_ ?_; · (exact h; done)) | (refine V.NIf.no ?_ ?_; · (exact h; done)) | refine V.NCond.mk ?_ | refine V.NPick.l ?_ | refine V.NIf.not_ ?_ | refine V.NIf.dec_ ?_ | refine V.a4 ?_ | refine V.a5 ?_ | refine V.NIf.mk (fun _ => ?_) (fun _ => ?_) | refine V.a7 ?_ | refine V.a8 ?_ | refine V.a9 ?_ | refine V.NBoth.mk ?_ ?_ | refine V.b1 ?_ | refine V.b2 ?_ | refine V.NTF.dec ?_ | refine V.b3 ?_ | refine V.b4 ?_ | ((first | refine V.FnR.k_ (c1) [0, 1] rfl ?_ ?_ | refine V.FnR.a_ (c1) [0, 1] rfl ?_ ?_); · exact V.D_) | (first | refine V.Fn.k0 (v_repBegun) rfl ?_ | refine V.Fn.q0 (v_repBegun) rfl ?_ | refine V.Fn.a0 (v_repBegun) rfl ?_) | (refine V.NDraw.any (by kernel_rfl) ?_) | fail)
    all_goals (conv => whnf)
    all_goals exact ⟨true, rfl, iff_of_true (by decide) rfl⟩
end Go.Proofs.Ytdehibmofmfkbaa

/- The statement of ReportTop: for every input the call returns true and its input reads as it did. No condition. -/
namespace Go.Proofs.Ytdehibmofmfkbaa.reportTop
open Go.ChangeShapes Go.WideShapes Go.ChangeAt Go.RowKit

theorem own : ownKnob Try.prog.godebug = none := by kernel_rfl

set_option maxRecDepth 100000 in
theorem lifted (os : Os) (started : os.Started) (H : Type) (enc : TypeId × Value → H) :
    ReturnsInHanded {} Try.checked os 5 .any (Rows.reportTopSpec.pre6 enc Try.prog Try.f5 Rows.reportTopRow.domain false) (Rows.reportTopSpec.post enc Try.prog Try.f5 false true false false) := by
  refine returnsInHanded_of_change (C := Try.checked) own started (by kernel_rfl) Try.func5
    (ChangeSpec.witness6 (enc := enc) (C := Try.checked) false ⟨#[], #[.slice none 0 0, .slice none 0 0, .int .i64 0, .int .i64 0], []⟩ 8 (by kernel_rfl) (by kernel_rfl) (by kernel_rfl) (by kernel_rfl)) ?_
  intro W base args ds gs before hval0 hW _ _
  have hval : ∀ (j : Nat) t v, Try.f5.params[j]? = some t → args[j]? = some v → Value.okWide Try.prog W .any base t v := hval0
  have hW' := hW
  obtain ⟨p, q, hA0, hV, rfl, hfz, hnd⟩ := hW
  have hA : DataW.TrodAll enc Try.prog W 0 (fun _ => true) true Try.f5.params.toList args.toList ds p := hA0
  rw [Try.params5] at hA hval
  obtain ⟨v0, vs0, d0, ds0, p0, q0, hargs, rfl, rfl, h0, r0⟩ := trodAll_cons hA
  obtain ⟨v1, vs1, d1, ds1, p1, q1, rfl, rfl, rfl, h1, r1⟩ := trodAll_cons r0
  obtain ⟨v2, vs2, d2, ds2, p2, q2, rfl, rfl, rfl, h2, r2⟩ := trodAll_cons r1
  obtain ⟨v3, vs3, d3, ds3, p3, q3, rfl, rfl, rfl, h3, r3⟩ := trodAll_cons r2
  obtain ⟨rfl, rfl, rfl⟩ := trodAll_nil r3
  obtain rfl : args = #[v0, v1, v2, v3] := by cases args; simp_all
  obtain ⟨rfl, rfl⟩ := trodVars_none hV
  obtain ⟨l0, hl0, w0⟩ := open_fls (hval 0 25 v0 rfl rfl) h0
  obtain ⟨l1, hl1, w1⟩ := open_il (hval 1 22 v1 rfl rfl) h1
  obtain ⟨a2, rfl, rfl, rfl, w2⟩ := open_int Try.underlying3 (hval 2 3 v2 rfl rfl) h2
  obtain ⟨a3, rfl, rfl, rfl, w3⟩ := open_int Try.underlying3 (hval 3 3 v3 rfl rfl) h3
  clear hval0
  simp only [List.append_nil] at hW'
  refine ((v_reportTop l0 w0 l1 w1 a2 w2 a3 w3).c W (fun i => [v0, v1][i]?) [_, _, _, _] (fun i o ho => by
      rcases i with _ | i
      · obtain rfl := Option.some.inj ho
        exact ⟨v0, rfl, hl0⟩
      rcases i with _ | i
      · obtain rfl := Option.some.inj ho
        exact ⟨v1, rfl, hl1⟩
      simp at ho
) ⟨_, _, rfl, ⟨rfl, hl0.one⟩, ⟨_, _, rfl, ⟨rfl, hl1.one⟩, ⟨_, _, rfl, rfl, ⟨_, _, rfl, rfl, rfl⟩⟩⟩⟩).mono fun e W' ⟨he, hg0⟩ => ?_
  have hg := hg0.toBelow
  subst he
  exact ⟨_, rfl, post_of_below (pa := _) (pv := []) hW' (fun _ _ _ => (trodAll_cons_mk (shut_bool Try.underlying4 _) trodAll_mk0)) (fun sp hsp => all_stays laidOut (by kernel_rfl) hA0 (fun x hx => hg.same (hW'.lt x (by revert hx; simp))) (fun x hx => hsp x (by revert hx; simp))) (fun _ _ => rfl) (by simp)
    hg (ok_one (by kernel_rfl) rfl (okWide_bool_mk Try.underlying4 _))⟩

theorem over : Rows.reportTopRow.holds Try.pinned (OpenSpec.ofChange Rows.reportTopSpec) :=
  OpenClaim.holds_of_wide 5 Try.f5 rfl rfl rfl rfl rfl rfl rfl ⟨rfl, rfl, rfl, rfl, rfl⟩ rfl rfl rfl rfl rfl (by kernel_rfl) Try.func5 (by kernel_rfl)
    (of_decide_eq_true (by kernel_rfl)) (by unfold Func.isWrapper; first | (rw [if_pos (by decide +kernel)]; kernel_rfl) | (rw [if_neg (by decide +kernel)]; exact ⟨rfl, rfl⟩))
    (fun os started H enc _ => lifted os started H enc)

theorem proved : Rows.ReportTopSaid :=
  over
end Go.Proofs.Ytdehibmofmfkbaa.reportTop
