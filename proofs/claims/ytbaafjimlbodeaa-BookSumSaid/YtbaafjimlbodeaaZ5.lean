/- Shared texts, one behind the other: VBook5, VBook6, VRange, VCal, VBook9, VBook10, VBook11, BookPl4, VLe, VBook12, BookPl5, VOpenPo -/
import Derived.Test.YtbaafjimlbodeaaZ1
import Derived.Test.YtbaafjimlbodeaaZ2
import Derived.Test.YtbaafjimlbodeaaZ3
import Derived.Test.YtbaafjimlbodeaaZ4

/- What the document's functions on books answer. -/
namespace Go.Proofs.Ytbaafjimlbodeaa
open Go Go.Sort Go.RowKit V
set_option maxRecDepth 100000
set_option linter.unusedVariables false
set_option linter.unusedSimpArgs false
set_option maxHeartbeats 4000000
namespace Bk
def selB (a u : Int) (p : Po) : Bool := decide (p.ut = u ∧ (a < 0 ∨ p.ac = a))
def sel (l : List Po) (a u : Int) : List Int := (l.filter (selB a u)).map (·.am)
theorem sel_snoc (l : List Po) (p : Po) (a u : Int) : sel (l ++ [p]) a u = sel l a u ++ if p.ut = u ∧ (a < 0 ∨ p.ac = a) then [p.am] else [] := by
  unfold sel
  rw [List.filter_append, List.map_append]
  congr 1
  by_cases h : p.ut = u ∧ (a < 0 ∨ p.ac = a)
  · rw [if_pos h]; simp [selB, h]
  · rw [if_neg h]; simp [selB, h]
theorem sel_len (l : List Po) (a u : Int) : (sel l a u).length ≤ l.length := by
  unfold sel
  rw [List.length_map]
  exact List.length_filter_le _ _
theorem sel_amt {l : List Po} (h : ∀ p ∈ l, Right p) (a u : Int) : ∀ x ∈ sel l a u, M.Amt x := fun x hx => by
  obtain ⟨p, hp, rfl⟩ := List.mem_map.1 hx
  exact (h p (List.mem_filter.1 hp).1).2.1
theorem sel_amu (l : List Po) (u : Nat) : sel l (-1) u = amu l u := by
  unfold sel amu
  congr 1
  refine List.filter_congr fun p _ => ?_
  unfold selB
  rw [decide_eq_decide]
  omega
theorem sel_amk {l : List Po} (h : ∀ p ∈ l, Right p) (k : Nat) : sel l ((k / 21 : Nat) : Int) ((k % 21 : Nat) : Int) = amk l k := by
  unfold sel amk
  congr 1
  refine List.filter_congr fun p hp => ?_
  obtain ⟨k1, k2, k3⟩ := key_r (h p hp)
  unfold selB
  rw [decide_eq_decide, k2, k3]
  omega
end Bk
theorem v_rPostR (p : Po) : V.Fn Try.prog 34 [] [.agg [.val (.int .i64 p.ac), .val (.int .i64 p.ut), .val (.int .i64 p.am)]] (.bool (decide (Bk.Right p))) := by
  have d := v_amcheck p.am
  have e : M.chk p.am = 0 ↔ M.Amt p.am := ⟨fun q => Classical.byContradiction fun z => by rw [M.chk_no z] at q; omega, M.chk_yes⟩
  have r : Bk.Right p ↔ ((0 ≤ p.ac ∧ p.ac ≤ 100) ∧ (0 ≤ p.ut ∧ p.ut ≤ 20)) ∧ M.chk p.am = 0 ∧ p.am ≠ 0 := by rw [e]; exact Iff.rfl
  generalize M.chk p.am = C at *
  refine V.Fn.mk_ V.Tok V.mixed Try.func34 rfl Try.ntmps34 (by kernel_rfl) rfl rfl ?_
  repeat' ((conv => whnf); first | refine V.NCond.mk ?_ | refine V.NIf.not_ ?_ | refine V.NIf.dec_ ?_ | refine V.NIf.no (by omega) ?_ | refine V.NIf.yes (by omega) ?_ | refine V.NIf.mk (fun _ => ?_) (fun _ => ?_) | refine V.NWrap.ok (by omega) (by omega) ?_ | refine V.NWrap.u64 (by omega) (by omega) ?_ | refine V.NLt.mk (by omega) ?_ | refine V.NBoth.mk ?_ ?_ | refine V.NTF.yes (by omega) ?_ | refine V.NTF.no (by omega) ?_ | refine V.NTF.dec ?_ | refine V.NDraw.q (by exact rfl) (by kernel_rfl) ?_ | refine V.NApp.one (by first | omega | (simp; omega)) (by first | omega | (simp; omega)) ?_ | (first | refine V.Fn.k0 (v_rbetween _ _ _) rfl ?_ | refine V.Fn.q0 (v_rbetween _ _ _) rfl ?_ | refine V.Fn.a0 (v_rbetween _ _ _) rfl ?_) | (first | refine V.Fn.k0 (d) rfl ?_ | refine V.Fn.q0 (d) rfl ?_ | refine V.Fn.a0 (d) rfl ?_) | (refine V.NDraw.any (by kernel_rfl) ?_) | fail)
  all_goals (conv => whnf)
  all_goals first
    | rfl
    | exact ⟨_, rfl, by rw [decide_eq_true_eq, r]; omega⟩
    | (exact congrArg Value.bool (by simp only [r]; simp; omega))
    | trace_state
theorem v_amof (l : List Po) (a u : Int) (hn : l.length ≤ 100000) : V.FnR Try.prog 33 [.arr 3 l.length (ga encP l)] [.one (.ref 0), .one (.val (.int .i64 a)), .one (.val (.int .i64 u))] (.one (.ref 1)) [.row 3 1 (Bk.sel l a u).length (ga e1 (Bk.sel l a u))] := by
  refine V.FnR.mk_ V.Tok V.mixed Try.func33 rfl Try.ntmps33 (by kernel_rfl) rfl rfl rfl rfl ?_
  repeat' ((conv => whnf); first | refine V.NCond.mk ?_ | refine V.NIf.not_ ?_ | refine V.NIf.dec_ ?_ | refine V.NIf.no (by omega) ?_ | refine V.NIf.yes (by omega) ?_ | refine V.NIf.mk (fun _ => ?_) (fun _ => ?_) | refine V.NWrap.ok (by omega) (by omega) ?_ | refine V.NWrap.u64 (by omega) (by omega) ?_ | refine V.NLt.mk (by omega) ?_ | refine V.NBoth.mk ?_ ?_ | refine V.NTF.yes (by omega) ?_ | refine V.NTF.no (by omega) ?_ | refine V.NTF.dec ?_ | refine V.NDraw.q (by exact rfl) (by kernel_rfl) ?_ | refine V.NApp.one (by first | omega | (simp; omega)) (by first | omega | (simp; omega)) ?_ | (refine V.NDraw.any (by kernel_rfl) ?_) | fail)
  all_goals (conv => whnf)
  refine V.NLoop.auto (fun (k : Nat) => [(8, .one (.val (.int .i64 k))), (7, .one (.ref 2))]) (fun (k : Nat) => [(2, .row 3 1 (Bk.sel (l.take k) a u).length (ga e1 (Bk.sel (l.take k) a u)))]) [] [] (fun (k : Nat) => l.length - k) (fun (k : Nat) => k ≤ l.length) 0 (Nat.zero_le _) (by repeat' (first | exact rfl | exact Iff.rfl | exact trivial | exact (fun _ _ => rfl) | exact (fun _ h => absurd h (Nat.not_lt_zero _)) | refine ⟨?_, ?_⟩ | exact Iff.rfl | exact congrArg (fun z => V.SV.one (V.At.val (Value.int .i64 z))) (by omega))) (by repeat' (first | exact rfl | exact Iff.rfl | exact trivial | exact (fun _ _ => rfl) | exact (fun _ h => absurd h (Nat.not_lt_zero _)) | refine ⟨?_, ?_⟩ | exact Iff.rfl | exact congrArg (fun z => V.SV.one (V.At.val (Value.int .i64 z))) (by omega))) (fun _ => ⟨rfl, rfl⟩) ?_; (conv => whnf); refine ⟨⟨rfl, rfl⟩, ?_⟩
  rintro k hk
  have sl := Bk.sel_len (l.take k) a u
  have tl : (l.take k).length = k := by rw [List.length_take]; omega
  by_cases hlt : k < l.length
  · have sn : Bk.sel (l.take (k + 1)) a u = Bk.sel (l.take k) a u ++ if (l.getD k default).ut = u ∧ (a < 0 ∨ (l.getD k default).ac = a) then [(l.getD k default).am] else [] := by rw [← Bk.sel_snoc, getD_at hlt, List.take_succ_eq_append_getElem hlt]
    repeat' ((conv => whnf); first | refine V.NCond.mk ?_ | refine V.NIf.not_ ?_ | refine V.NIf.dec_ ?_ | refine V.NIf.no (by omega) ?_ | refine V.NIf.yes (by omega) ?_ | refine V.NIf.mk (fun _ => ?_) (fun _ => ?_) | refine V.NWrap.ok (by omega) (by omega) ?_ | refine V.NWrap.u64 (by omega) (by omega) ?_ | refine V.NLt.mk (by omega) ?_ | refine V.NBoth.mk ?_ ?_ | refine V.NTF.yes (by omega) ?_ | refine V.NTF.no (by omega) ?_ | refine V.NTF.dec ?_ | refine V.NDraw.q (by exact rfl) (by kernel_rfl) ?_ | refine V.NApp.one (by first | omega | (simp; omega)) (by first | omega | (simp; omega)) ?_ | (refine NIdx.mk ⟨k, rfl, by omega, ?_⟩) | (refine V.NDraw.any (by kernel_rfl) ?_) | fail)
    all_goals (conv => whnf)
    all_goals first
      | exact V.NBack.at_ (k + 1) [] (by omega) (by omega) (by repeat' (first | exact rfl | exact Iff.rfl | exact trivial | exact (fun _ _ => rfl) | exact (fun _ h => absurd h (Nat.not_lt_zero _)) | refine ⟨?_, ?_⟩ | exact Iff.rfl | exact congrArg (fun z => V.SV.one (V.At.val (Value.int .i64 z))) (by omega))) rfl ⟨ObLe.as_ (sn.trans (by rw [if_neg (by omega), List.append_nil])), trivial⟩ (by repeat' (first | exact rfl | exact Iff.rfl | exact trivial | exact (fun _ _ => rfl) | exact (fun _ h => absurd h (Nat.not_lt_zero _)) | refine ⟨?_, ?_⟩ | exact Iff.rfl | exact congrArg (fun z => V.SV.one (V.At.val (Value.int .i64 z))) (by omega))) (by repeat' (first | exact rfl | exact Iff.rfl | exact trivial | exact (fun _ _ => rfl) | exact (fun _ h => absurd h (Nat.not_lt_zero _)) | refine ⟨?_, ?_⟩ | exact Iff.rfl | exact congrArg (fun z => V.SV.one (V.At.val (Value.int .i64 z))) (by omega)))
      | (refine V.NBack.at_ (k + 1) [(2, 4)] (by omega) (by omega) (by repeat' (first | exact rfl | exact Iff.rfl | exact trivial | exact (fun _ _ => rfl) | exact (fun _ h => absurd h (Nat.not_lt_zero _)) | refine ⟨?_, ?_⟩ | exact Iff.rfl | exact congrArg (fun z => V.SV.one (V.At.val (Value.int .i64 z))) (by omega))) rfl ⟨ObLe.as_ (sn.trans (by rw [if_pos (by omega)])), trivial⟩ (by repeat' (first | exact rfl | exact Iff.rfl | exact trivial | exact (fun _ _ => rfl) | exact (fun _ h => absurd h (Nat.not_lt_zero _)) | refine ⟨?_, ?_⟩ | exact Iff.rfl | exact congrArg (fun z => V.SV.one (V.At.val (Value.int .i64 z))) (by omega))) (by repeat' (first | exact rfl | exact Iff.rfl | exact trivial | exact (fun _ _ => rfl) | exact (fun _ h => absurd h (Nat.not_lt_zero _)) | refine ⟨?_, ?_⟩ | exact Iff.rfl | exact congrArg (fun z => V.SV.one (V.At.val (Value.int .i64 z))) (by omega))))
      | trace_state
  · obtain rfl : k = l.length := by omega
    rw [List.take_length]
    repeat' ((conv => whnf); first | refine V.NCond.mk ?_ | refine V.NIf.not_ ?_ | refine V.NIf.dec_ ?_ | refine V.NIf.no (by omega) ?_ | refine V.NIf.yes (by omega) ?_ | refine V.NIf.mk (fun _ => ?_) (fun _ => ?_) | refine V.NWrap.ok (by omega) (by omega) ?_ | refine V.NWrap.u64 (by omega) (by omega) ?_ | refine V.NLt.mk (by omega) ?_ | refine V.NBoth.mk ?_ ?_ | refine V.NTF.yes (by omega) ?_ | refine V.NTF.no (by omega) ?_ | refine V.NTF.dec ?_ | refine V.NDraw.q (by exact rfl) (by kernel_rfl) ?_ | refine V.NApp.one (by first | omega | (simp; omega)) (by first | omega | (simp; omega)) ?_ | (refine V.NDraw.any (by kernel_rfl) ?_) | fail)
    all_goals (conv => whnf)
    exact NRet.mk_ [some 2] rfl rfl ⟨⟨rfl, rfl, rfl, fun _ _ => rfl⟩, trivial⟩
theorem tk_all {P : Po → Prop} {l : List Po} {k : Nat} (hk : k < l.length) (h : ∀ p ∈ l.take k, P p) (h2 : P (l.getD k default)) : ∀ p ∈ l.take (k + 1), P p := fun p hp => by
  rw [List.take_succ_eq_append_getElem hk, List.mem_append] at hp
  rcases hp with hp | hp
  · exact h p hp
  · rw [List.mem_singleton.1 hp, ← getD_at hk]; exact h2
theorem sofV_eq (l : List Int) : M.sofV l = M.sum l ∨ ¬ M.Amt (M.sum l) := by
  unfold M.sofV M.Amt
  split <;> omega
theorem v_evenof (l : List Po) (hn : l.length ≤ 1000) (hr : ∀ p ∈ l, Bk.Right p) : V.Fn Try.prog 35 [.arr 3 l.length (ga encP l)] [.one (.ref 0)] (.bool (Bk.even l)) := by
  have ev := Bk.even_iff l
  refine V.Fn.mk_ V.Tok V.mixed Try.func35 rfl Try.ntmps35 (by kernel_rfl) rfl rfl ?_
  repeat' ((conv => whnf); first | refine V.NCond.mk ?_ | refine V.NIf.not_ ?_ | refine V.NIf.dec_ ?_ | refine V.NIf.no (by omega) ?_ | refine V.NIf.yes (by omega) ?_ | refine V.NIf.mk (fun _ => ?_) (fun _ => ?_) | refine V.NWrap.ok (by omega) (by omega) ?_ | refine V.NWrap.u64 (by omega) (by omega) ?_ | refine V.NLt.mk (by omega) ?_ | refine V.NBoth.mk ?_ ?_ | refine V.NTF.yes (by omega) ?_ | refine V.NTF.no (by omega) ?_ | refine V.NTF.dec ?_ | refine V.NDraw.q (by exact rfl) (by kernel_rfl) ?_ | refine V.NApp.one (by first | omega | (simp; omega)) (by first | omega | (simp; omega)) ?_ | (refine V.NDraw.any (by kernel_rfl) ?_) | fail)
  all_goals (conv => whnf)
  refine V.NLoop.auto (fun (u : Nat) => [(3, .one (.val (.int .i64 u)))]) (fun (u : Nat) => []) [] [] (fun (u : Nat) => 21 - u) (fun (u : Nat) => u ≤ 21 ∧ ∀ v, v < u → M.sum (Bk.amu l v) = 0) 0 ⟨Nat.zero_le _, fun u h => absurd h (Nat.not_lt_zero _)⟩ (by repeat' (first | exact rfl | exact Iff.rfl | exact trivial | exact (fun _ _ => rfl) | exact (fun _ h => absurd h (Nat.not_lt_zero _)) | refine ⟨?_, ?_⟩ | exact Iff.rfl | exact congrArg (fun z => V.SV.one (V.At.val (Value.int .i64 z))) (by omega))) (by repeat' (first | exact rfl | exact Iff.rfl | exact trivial | exact (fun _ _ => rfl) | exact (fun _ h => absurd h (Nat.not_lt_zero _)) | refine ⟨?_, ?_⟩ | exact Iff.rfl | exact congrArg (fun z => V.SV.one (V.At.val (Value.int .i64 z))) (by omega))) (fun _ => ⟨rfl, rfl⟩) ?_; (conv => whnf); refine ⟨⟨rfl, rfl⟩, ?_⟩
  rintro u ⟨hu, hJ⟩
  have c := v_amof l (-1) (u : Int) (by omega)
  rw [Bk.sel_amu] at c
  have d := v_sumof (Bk.amu l u) (by have := Bk.amu_len l u; omega) (Bk.amu_amt hr u)
  have e := sofV_eq (Bk.amu l u)
  have z : M.sum (Bk.amu l u) = 0 → M.Amt (M.sum (Bk.amu l u)) := fun h => by rw [h]; unfold M.Amt; omega
  have evf : u < 21 → ¬ M.sum (Bk.amu l u) = 0 → Bk.even l = false := fun h1 h2 => by
    cases e : Bk.even l
    · rfl
    · exact absurd (ev.1 e u h1) h2
  generalize M.sofV (Bk.amu l u) = sv at *
  have o1 : decide (M.Amt (M.sum (Bk.amu l u))) = true ↔ M.Amt (M.sum (Bk.amu l u)) := decide_eq_true_iff
  generalize decide (M.Amt (M.sum (Bk.amu l u))) = o at *
  rw [← o1] at e z
  clear o1
  have es : o = true → sv = M.sum (Bk.amu l u) := fun h => e.resolve_right (fun z => z h)
  repeat' ((conv => whnf); first | refine V.NCond.mk ?_ | refine V.NIf.not_ ?_ | refine V.NIf.dec_ ?_ | refine V.NIf.no (by omega) ?_ | refine V.NIf.yes (by omega) ?_ | refine V.NIf.mk (fun _ => ?_) (fun _ => ?_) | refine V.NWrap.ok (by omega) (by omega) ?_ | refine V.NWrap.u64 (by omega) (by omega) ?_ | refine V.NLt.mk (by omega) ?_ | refine V.NBoth.mk ?_ ?_ | refine V.NTF.yes (by omega) ?_ | refine V.NTF.no (by omega) ?_ | refine V.NTF.dec ?_ | refine V.NDraw.q (by exact rfl) (by kernel_rfl) ?_ | refine V.NApp.one (by first | omega | (simp; omega)) (by first | omega | (simp; omega)) ?_ | ((first | refine V.FnR.k_ (c) [0] rfl ?_ ?_ | refine V.FnR.a_ (c) [0] rfl ?_ ?_); · ((repeat' (first | exact rfl | exact Iff.rfl | exact trivial | exact (fun _ _ => rfl) | exact (fun _ h => absurd h (Nat.not_lt_zero _)) | refine ⟨?_, ?_⟩ | exact Iff.rfl | exact congrArg (fun z => V.SV.one (V.At.val (Value.int .i64 z))) (by omega))); done)) | ((first | refine V.Fn.k (d) [1] rfl ?_ ?_ | refine V.Fn.q (d) [1] rfl ?_ ?_ | refine V.Fn.a (d) [1] rfl ?_ ?_); · ((repeat' (first | exact rfl | exact Iff.rfl | exact trivial | exact (fun _ _ => rfl) | exact (fun _ h => absurd h (Nat.not_lt_zero _)) | refine ⟨?_, ?_⟩ | exact Iff.rfl | exact congrArg (fun z => V.SV.one (V.At.val (Value.int .i64 z))) (by omega))); done)) | (refine V.NDraw.any (by kernel_rfl) ?_) | fail)
  all_goals (conv => whnf)
  · exact V.NBack.at_ (u + 1) [] ⟨by omega, fun v hv => (show v < u ∨ v = u by omega).elim (hJ v) (fun e => by rw [e]; have := es (by assumption); omega)⟩ (by omega) (by repeat' (first | exact rfl | exact Iff.rfl | exact trivial | exact (fun _ _ => rfl) | exact (fun _ h => absurd h (Nat.not_lt_zero _)) | refine ⟨?_, ?_⟩ | exact Iff.rfl | exact congrArg (fun z => V.SV.one (V.At.val (Value.int .i64 z))) (by omega))) rfl (by repeat' (first | exact rfl | exact Iff.rfl | exact trivial | exact (fun _ _ => rfl) | exact (fun _ h => absurd h (Nat.not_lt_zero _)) | refine ⟨?_, ?_⟩ | exact Iff.rfl | exact congrArg (fun z => V.SV.one (V.At.val (Value.int .i64 z))) (by omega))) (by repeat' (first | exact rfl | exact Iff.rfl | exact trivial | exact (fun _ _ => rfl) | exact (fun _ h => absurd h (Nat.not_lt_zero _)) | refine ⟨?_, ?_⟩ | exact Iff.rfl | exact congrArg (fun z => V.SV.one (V.At.val (Value.int .i64 z))) (by omega))) (by repeat' (first | exact rfl | exact Iff.rfl | exact trivial | exact (fun _ _ => rfl) | exact (fun _ h => absurd h (Nat.not_lt_zero _)) | refine ⟨?_, ?_⟩ | exact Iff.rfl | exact congrArg (fun z => V.SV.one (V.At.val (Value.int .i64 z))) (by omega)))
  · exact congrArg Value.bool (evf (by omega) (by have := es (by assumption); omega)).symm
  · exact congrArg Value.bool (evf (by omega) (fun h => absurd (z h) (by assumption))).symm
  · exact congrArg Value.bool (ev.2 fun v hv => hJ v (by omega)).symm
theorem v_rPostsC (l : List Po) (hn : l.length ≤ 9223372036854775807) : V.Fn Try.prog 17 [.arr 3 l.length (ga encP l)] [.one (.ref 0)] (.int .i64 (Bk.chk l)) := by
  have cc := Bk.chk_cases l
  have c1 : l.length = 0 → Bk.chk l = 1 := fun h => if_pos h
  have c2 : 60 < l.length → Bk.chk l = 2 := fun h => (if_neg (by omega)).trans (if_pos h)
  have c3 : l.length ≠ 0 → ¬ 60 < l.length → ∀ p ∈ l, ¬ Bk.Right p → Bk.chk l = 3 := fun h1 h2 p hp h3 => by
    rcases cc with ⟨h, _⟩ | ⟨h, _⟩ | ⟨_, _, e⟩ | ⟨_, _, h, _⟩ | ⟨_, _, h, _⟩
    · omega
    · omega
    · exact e
    · exact absurd (h p hp) h3
    · exact absurd (h p hp) h3
  have c4 : l.length ≠ 0 → ¬ 60 < l.length → (∀ p ∈ l, Bk.Right p) → Bk.chk l = if Bk.even l = true then 0 else 4 := fun h1 h2 h3 => by
    rcases cc with ⟨h, _⟩ | ⟨h, _⟩ | ⟨_, h, e⟩ | ⟨_, _, h, e, f⟩ | ⟨_, _, h, e, f⟩
    · omega
    · omega
    · exfalso
      rcases ixf_cases Bk.bad l with ⟨e, _⟩ | ⟨k, _, hk, hp, _⟩
      · omega
      · have := h3 _ (getD_mem hk)
        unfold Bk.bad at hp
        simp only [Bool.not_eq_true', decide_eq_false_iff_not] at hp
        exact hp this
    · rw [e, f]; rfl
    · rw [e, f]; rfl
  have ce := fun (q : l.length ≤ 1000) (r : ∀ p ∈ l, Bk.Right p) => v_evenof l q r
  clear cc
  generalize Bk.even l = ev at *
  refine V.Fn.mk_ V.Tok V.mixed Try.func17 rfl Try.ntmps17 (by kernel_rfl) rfl rfl ?_
  repeat' ((conv => whnf); first | refine V.NCond.mk ?_ | refine V.NIf.not_ ?_ | refine V.NIf.dec_ ?_ | refine V.NIf.no (by omega) ?_ | refine V.NIf.yes (by omega) ?_ | refine V.NIf.mk (fun _ => ?_) (fun _ => ?_) | refine V.NWrap.ok (by omega) (by omega) ?_ | refine V.NWrap.u64 (by omega) (by omega) ?_ | refine V.NLt.mk (by omega) ?_ | refine V.NBoth.mk ?_ ?_ | refine V.NTF.yes (by omega) ?_ | refine V.NTF.no (by omega) ?_ | refine V.NTF.dec ?_ | refine V.NDraw.q (by exact rfl) (by kernel_rfl) ?_ | refine V.NApp.one (by first | omega | (simp; omega)) (by first | omega | (simp; omega)) ?_ | (refine V.NDraw.any (by kernel_rfl) ?_) | fail)
  all_goals (conv => whnf)
  · exact V.fin1 (c1 (by omega))
  · exact V.fin1 (c2 (by omega))
  refine V.NLoop.auto (fun (k : Nat) => [(3, .one (.val (.int .i64 k)))]) (fun (k : Nat) => []) [] [] (fun (k : Nat) => l.length - k) (fun (k : Nat) => k ≤ l.length ∧ ∀ p ∈ l.take k, Bk.Right p) 0 ⟨Nat.zero_le _, by simp⟩ (by repeat' (first | exact rfl | exact Iff.rfl | exact trivial | exact (fun _ _ => rfl) | exact (fun _ h => absurd h (Nat.not_lt_zero _)) | refine ⟨?_, ?_⟩ | exact Iff.rfl | exact congrArg (fun z => V.SV.one (V.At.val (Value.int .i64 z))) (by omega))) (by repeat' (first | exact rfl | exact Iff.rfl | exact trivial | exact (fun _ _ => rfl) | exact (fun _ h => absurd h (Nat.not_lt_zero _)) | refine ⟨?_, ?_⟩ | exact Iff.rfl | exact congrArg (fun z => V.SV.one (V.At.val (Value.int .i64 z))) (by omega))) (fun _ => ⟨rfl, rfl⟩) ?_; (conv => whnf); refine ⟨⟨rfl, rfl⟩, ?_⟩
  rintro k ⟨hk, hJ⟩
  by_cases hlt : k < l.length
  · repeat' ((conv => whnf); first | refine V.NCond.mk ?_ | refine V.NIf.not_ ?_ | refine V.NIf.dec_ ?_ | refine V.NIf.no (by omega) ?_ | refine V.NIf.yes (by omega) ?_ | refine V.NIf.mk (fun _ => ?_) (fun _ => ?_) | refine V.NWrap.ok (by omega) (by omega) ?_ | refine V.NWrap.u64 (by omega) (by omega) ?_ | refine V.NLt.mk (by omega) ?_ | refine V.NBoth.mk ?_ ?_ | refine V.NTF.yes (by omega) ?_ | refine V.NTF.no (by omega) ?_ | refine V.NTF.dec ?_ | refine V.NDraw.q (by exact rfl) (by kernel_rfl) ?_ | refine V.NApp.one (by first | omega | (simp; omega)) (by first | omega | (simp; omega)) ?_ | (refine NIdx.mk ⟨k, rfl, by omega, ?_⟩) | (first | refine V.Fn.k0 (v_rPostR (l.getD k default)) rfl ?_ | refine V.Fn.q0 (v_rPostR (l.getD k default)) rfl ?_ | refine V.Fn.a0 (v_rPostR (l.getD k default)) rfl ?_) | (refine V.NDraw.any (by kernel_rfl) ?_) | fail)
    all_goals (conv => whnf)
    · exact V.NBack.at_ (k + 1) [] ⟨by omega, tk_all hlt hJ (by assumption)⟩ (by omega) (by repeat' (first | exact rfl | exact Iff.rfl | exact trivial | exact (fun _ _ => rfl) | exact (fun _ h => absurd h (Nat.not_lt_zero _)) | refine ⟨?_, ?_⟩ | exact Iff.rfl | exact congrArg (fun z => V.SV.one (V.At.val (Value.int .i64 z))) (by omega))) rfl (by repeat' (first | exact rfl | exact Iff.rfl | exact trivial | exact (fun _ _ => rfl) | exact (fun _ h => absurd h (Nat.not_lt_zero _)) | refine ⟨?_, ?_⟩ | exact Iff.rfl | exact congrArg (fun z => V.SV.one (V.At.val (Value.int .i64 z))) (by omega))) (by repeat' (first | exact rfl | exact Iff.rfl | exact trivial | exact (fun _ _ => rfl) | exact (fun _ h => absurd h (Nat.not_lt_zero _)) | refine ⟨?_, ?_⟩ | exact Iff.rfl | exact congrArg (fun z => V.SV.one (V.At.val (Value.int .i64 z))) (by omega))) (by repeat' (first | exact rfl | exact Iff.rfl | exact trivial | exact (fun _ _ => rfl) | exact (fun _ h => absurd h (Nat.not_lt_zero _)) | refine ⟨?_, ?_⟩ | exact Iff.rfl | exact congrArg (fun z => V.SV.one (V.At.val (Value.int .i64 z))) (by omega)))
    · exact V.fin1 (c3 (by omega) (by omega) _ (getD_mem hlt) (by assumption))
  · obtain rfl : k = l.length := by omega
    rw [List.take_length] at hJ
    have c4 := c4 (by omega) (by omega) hJ
    repeat' ((conv => whnf); first | refine V.NCond.mk ?_ | refine V.NIf.not_ ?_ | refine V.NIf.dec_ ?_ | refine V.NIf.no (by omega) ?_ | refine V.NIf.yes (by omega) ?_ | refine V.NIf.mk (fun _ => ?_) (fun _ => ?_) | refine V.NWrap.ok (by omega) (by omega) ?_ | refine V.NWrap.u64 (by omega) (by omega) ?_ | refine V.NLt.mk (by omega) ?_ | refine V.NBoth.mk ?_ ?_ | refine V.NTF.yes (by omega) ?_ | refine V.NTF.no (by omega) ?_ | refine V.NTF.dec ?_ | refine V.NDraw.q (by exact rfl) (by kernel_rfl) ?_ | refine V.NApp.one (by first | omega | (simp; omega)) (by first | omega | (simp; omega)) ?_ | ((first | refine V.Fn.k (ce (by omega) hJ) [0] rfl ?_ ?_ | refine V.Fn.q (ce (by omega) hJ) [0] rfl ?_ ?_ | refine V.Fn.a (ce (by omega) hJ) [0] rfl ?_ ?_); · ((repeat' (first | exact rfl | exact Iff.rfl | exact trivial | exact (fun _ _ => rfl) | exact (fun _ h => absurd h (Nat.not_lt_zero _)) | refine ⟨?_, ?_⟩ | exact Iff.rfl | exact congrArg (fun z => V.SV.one (V.At.val (Value.int .i64 z))) (by omega))); done)) | (refine V.NDraw.any (by kernel_rfl) ?_) | fail)
    all_goals (conv => whnf)
    · exact V.fin1 (c4.trans (if_pos (by assumption)))
    · exact V.fin1 (c4.trans (if_neg (by assumption)))
theorem v_rLines (l : List Po) (hn : l.length ≤ 9223372036854775807) : V.Fn Try.prog 15 [.arr 3 l.length (ga encP l)] [.one (.ref 0)] (.int .i64 (Bk.lines l)) := by
  have lc := Bk.lines_cases l
  have lq : l.length ≤ 400 → Ca.fe (Bk.eAt l) l.length = 0 → Bk.Lines l := fun h1 h2 => Bk.fe_ok h1 h2
  have ce := fun (q : Bk.Lines l) => v_evenof l (Nat.le_trans q.le (by decide)) q.r
  have lf : l.length ≤ 400 → Ca.fe (Bk.eAt l) l.length ≠ 0 → Bk.lines l = Ca.fe (Bk.eAt l) l.length := fun h1 h2 => by omega
  have le : l.length ≤ 400 → Ca.fe (Bk.eAt l) l.length = 0 → Bk.lines l = if Bk.even l = true then 0 else 4 := fun h1 h2 => by
    rcases lc with ⟨h, e⟩ | ⟨_, h, e⟩ | ⟨_, _, h, e⟩ | ⟨_, _, h, e⟩
    · omega
    · exact absurd h2 h
    · rw [h, e]; rfl
    · rw [h, e]; rfl
  generalize Bk.even l = ev at *
  have l2 : 400 < l.length → Bk.lines l = 2 := fun h => by
    rcases lc with ⟨_, e⟩ | ⟨h', _⟩ | ⟨_, h', _⟩ | ⟨_, h', _⟩
    · exact e
    · omega
    · have := h'.le; omega
    · have := h'.le; omega
  clear lc
  refine V.Fn.mk_ V.Tok V.mixed Try.func15 rfl Try.ntmps15 (by kernel_rfl) rfl rfl ?_
  repeat' ((conv => whnf); first | refine V.NCond.mk ?_ | refine V.NIf.not_ ?_ | refine V.NIf.dec_ ?_ | refine V.NIf.no (by omega) ?_ | refine V.NIf.yes (by omega) ?_ | refine V.NIf.mk (fun _ => ?_) (fun _ => ?_) | refine V.NWrap.ok (by omega) (by omega) ?_ | refine V.NWrap.u64 (by omega) (by omega) ?_ | refine V.NLt.mk (by omega) ?_ | refine V.NBoth.mk ?_ ?_ | refine V.NTF.yes (by omega) ?_ | refine V.NTF.no (by omega) ?_ | refine V.NTF.dec ?_ | refine V.NDraw.q (by exact rfl) (by kernel_rfl) ?_ | refine V.NApp.one (by first | omega | (simp; omega)) (by first | omega | (simp; omega)) ?_ | (refine V.NDraw.any (by kernel_rfl) ?_) | fail)
  all_goals (conv => whnf)
  · exact V.fin1 (l2 (by omega))
  refine V.NLoop.auto (fun (k : Nat) => [(3, .one (.val (.int .i64 k)))]) (fun (k : Nat) => []) [] [] (fun (k : Nat) => l.length - k) (fun (k : Nat) => k ≤ l.length ∧ ∀ j, j < k → Bk.eAt l j = 0) 0 ⟨Nat.zero_le _, fun u h => absurd h (Nat.not_lt_zero _)⟩ (by repeat' (first | exact rfl | exact Iff.rfl | exact trivial | exact (fun _ _ => rfl) | exact (fun _ h => absurd h (Nat.not_lt_zero _)) | refine ⟨?_, ?_⟩ | exact Iff.rfl | exact congrArg (fun z => V.SV.one (V.At.val (Value.int .i64 z))) (by omega))) (by repeat' (first | exact rfl | exact Iff.rfl | exact trivial | exact (fun _ _ => rfl) | exact (fun _ h => absurd h (Nat.not_lt_zero _)) | refine ⟨?_, ?_⟩ | exact Iff.rfl | exact congrArg (fun z => V.SV.one (V.At.val (Value.int .i64 z))) (by omega))) (fun _ => ⟨rfl, rfl⟩) ?_; (conv => whnf); refine ⟨⟨rfl, rfl⟩, ?_⟩
  rintro k ⟨hk, hJ⟩
  by_cases hlt : k < l.length
  · have hA : Bk.eAt l k ≠ 0 → Bk.lines l = Bk.eAt l k := fun h => by
      have := Ca.fe_get hlt hJ h
      rw [lf (by omega) (by omega), this]
    have e1 : ¬ Bk.Right (l.getD k default) → Bk.eAt l k = 3 := fun h => if_pos h
    have e2 : Bk.Right (l.getD k default) → 0 < k → ¬ ((l.getD (k - 1) default).ac < (l.getD k default).ac ∨ ((l.getD (k - 1) default).ac = (l.getD k default).ac ∧ (l.getD (k - 1) default).ut < (l.getD k default).ut)) → Bk.eAt l k = 4 := fun h1 h2 h3 => (if_neg (fun z => z h1)).trans (if_pos ⟨h2, decide_eq_false h3⟩)
    have e3 : Bk.Right (l.getD k default) → (0 < k → (l.getD (k - 1) default).ac < (l.getD k default).ac ∨ ((l.getD (k - 1) default).ac = (l.getD k default).ac ∧ (l.getD (k - 1) default).ut < (l.getD k default).ut)) → Bk.eAt l k = 0 := fun h1 h2 => (if_neg (fun z => z h1)).trans (if_neg (fun z => of_decide_eq_false z.2 (h2 z.1)))
    have c1 := v_rPostR (l.getD k default)
    repeat' ((conv => whnf); first | refine V.NCond.mk ?_ | refine V.NIf.not_ ?_ | refine V.NIf.dec_ ?_ | refine V.NIf.no (by omega) ?_ | refine V.NIf.yes (by omega) ?_ | refine V.NIf.mk (fun _ => ?_) (fun _ => ?_) | refine V.NWrap.ok (by omega) (by omega) ?_ | refine V.NWrap.u64 (by omega) (by omega) ?_ | refine V.NLt.mk (by omega) ?_ | refine V.NBoth.mk ?_ ?_ | refine V.NTF.yes (by omega) ?_ | refine V.NTF.no (by omega) ?_ | refine V.NTF.dec ?_ | refine V.NDraw.q (by exact rfl) (by kernel_rfl) ?_ | refine V.NApp.one (by first | omega | (simp; omega)) (by first | omega | (simp; omega)) ?_ | (refine NIdx.mk ⟨k, rfl, by omega, ?_⟩) | (refine NIdx.mk ⟨k - 1, by omega, by omega, ?_⟩) | (first | refine V.Fn.k0 (c1) rfl ?_ | refine V.Fn.q0 (c1) rfl ?_ | refine V.Fn.a0 (c1) rfl ?_) | (refine V.NDraw.any (by kernel_rfl) ?_) | fail)
    all_goals (conv => whnf)
    all_goals first
      | exact V.fin1 ((hA (by rw [e1 (by assumption)]; decide)).trans (e1 (by assumption)))
      | exact V.fin1 ((hA (by rw [e2 (by assumption) (by omega) (by omega)]; decide)).trans (e2 (by assumption) (by omega) (by omega)))
      | exact V.NBack.at_ (k + 1) [] ⟨by omega, fun j hj => (show j < k ∨ j = k by omega).elim (hJ j) (fun e => by rw [e]; exact e3 (by assumption) fun _ => by omega)⟩ (by omega) (by repeat' (first | exact rfl | exact Iff.rfl | exact trivial | exact (fun _ _ => rfl) | exact (fun _ h => absurd h (Nat.not_lt_zero _)) | refine ⟨?_, ?_⟩ | exact Iff.rfl | exact congrArg (fun z => V.SV.one (V.At.val (Value.int .i64 z))) (by omega))) rfl (by repeat' (first | exact rfl | exact Iff.rfl | exact trivial | exact (fun _ _ => rfl) | exact (fun _ h => absurd h (Nat.not_lt_zero _)) | refine ⟨?_, ?_⟩ | exact Iff.rfl | exact congrArg (fun z => V.SV.one (V.At.val (Value.int .i64 z))) (by omega))) (by repeat' (first | exact rfl | exact Iff.rfl | exact trivial | exact (fun _ _ => rfl) | exact (fun _ h => absurd h (Nat.not_lt_zero _)) | refine ⟨?_, ?_⟩ | exact Iff.rfl | exact congrArg (fun z => V.SV.one (V.At.val (Value.int .i64 z))) (by omega))) (by repeat' (first | exact rfl | exact Iff.rfl | exact trivial | exact (fun _ _ => rfl) | exact (fun _ h => absurd h (Nat.not_lt_zero _)) | refine ⟨?_, ?_⟩ | exact Iff.rfl | exact congrArg (fun z => V.SV.one (V.At.val (Value.int .i64 z))) (by omega)))
      | trace_state
  · obtain rfl : k = l.length := by omega
    have f0 := Ca.fe_end hJ
    have le := le (by omega) f0
    repeat' ((conv => whnf); first | refine V.NCond.mk ?_ | refine V.NIf.not_ ?_ | refine V.NIf.dec_ ?_ | refine V.NIf.no (by omega) ?_ | refine V.NIf.yes (by omega) ?_ | refine V.NIf.mk (fun _ => ?_) (fun _ => ?_) | refine V.NWrap.ok (by omega) (by omega) ?_ | refine V.NWrap.u64 (by omega) (by omega) ?_ | refine V.NLt.mk (by omega) ?_ | refine V.NBoth.mk ?_ ?_ | refine V.NTF.yes (by omega) ?_ | refine V.NTF.no (by omega) ?_ | refine V.NTF.dec ?_ | refine V.NDraw.q (by exact rfl) (by kernel_rfl) ?_ | refine V.NApp.one (by first | omega | (simp; omega)) (by first | omega | (simp; omega)) ?_ | ((first | refine V.Fn.k (ce (lq (by omega) f0)) [0] rfl ?_ ?_ | refine V.Fn.q (ce (lq (by omega) f0)) [0] rfl ?_ ?_ | refine V.Fn.a (ce (lq (by omega) f0)) [0] rfl ?_ ?_); · ((repeat' (first | exact rfl | exact Iff.rfl | exact trivial | exact (fun _ _ => rfl) | exact (fun _ h => absurd h (Nat.not_lt_zero _)) | refine ⟨?_, ?_⟩ | exact Iff.rfl | exact congrArg (fun z => V.SV.one (V.At.val (Value.int .i64 z))) (by omega))); done)) | (refine V.NDraw.any (by kernel_rfl) ?_) | fail)
    all_goals (conv => whnf)
    · exact V.fin1 (le.trans (if_pos (by assumption)))
    · exact V.fin1 (le.trans (if_neg (by assumption)))
namespace Bk
def at? (a u : Int) (p : Po) : Bool := decide (p.ac = a ∧ p.ut = u)
def amAt (b : List Po) (a u : Int) : Int := if 0 ≤ ixf (at? a u) b then (b.getD (ixf (at? a u) b).toNat default).am else 0
end Bk
theorem v_rAt (l : List Po) (a u : Int) (hn : l.length ≤ 9223372036854775807) : V.Fn Try.prog 16 [.arr 3 l.length (ga encP l)] [.one (.ref 0), .one (.val (.int .i64 a)), .one (.val (.int .i64 u))] (.int .i64 (Bk.amAt l a u)) := by
  refine V.Fn.mk_ V.Tok V.mixed Try.func16 rfl Try.ntmps16 (by kernel_rfl) rfl rfl ?_
  repeat' ((conv => whnf); first | refine V.NCond.mk ?_ | refine V.NIf.not_ ?_ | refine V.NIf.dec_ ?_ | refine V.NIf.no (by omega) ?_ | refine V.NIf.yes (by omega) ?_ | refine V.NIf.mk (fun _ => ?_) (fun _ => ?_) | refine V.NWrap.ok (by omega) (by omega) ?_ | refine V.NWrap.u64 (by omega) (by omega) ?_ | refine V.NLt.mk (by omega) ?_ | refine V.NBoth.mk ?_ ?_ | refine V.NTF.yes (by omega) ?_ | refine V.NTF.no (by omega) ?_ | refine V.NTF.dec ?_ | refine V.NDraw.q (by exact rfl) (by kernel_rfl) ?_ | refine V.NApp.one (by first | omega | (simp; omega)) (by first | omega | (simp; omega)) ?_ | (refine V.NDraw.any (by kernel_rfl) ?_) | fail)
  all_goals (conv => whnf)
  refine V.NLoop.auto (fun (k : Nat) => [(7, .one (.val (.int .i64 k)))]) (fun (k : Nat) => []) [] [] (fun (k : Nat) => l.length - k) (fun (k : Nat) => k ≤ l.length ∧ ∀ d ∈ l.take k, Bk.at? a u d = false) 0 ⟨by omega, by simp⟩ (by repeat' (first | exact rfl | exact Iff.rfl | exact trivial | exact (fun _ _ => rfl) | exact (fun _ h => absurd h (Nat.not_lt_zero _)) | refine ⟨?_, ?_⟩ | exact Iff.rfl | exact congrArg (fun z => V.SV.one (V.At.val (Value.int .i64 z))) (by omega))) (by repeat' (first | exact rfl | exact Iff.rfl | exact trivial | exact (fun _ _ => rfl) | exact (fun _ h => absurd h (Nat.not_lt_zero _)) | refine ⟨?_, ?_⟩ | exact Iff.rfl | exact congrArg (fun z => V.SV.one (V.At.val (Value.int .i64 z))) (by omega))) (fun _ => ⟨rfl, rfl⟩) ?_; (conv => whnf); refine ⟨⟨rfl, rfl⟩, ?_⟩
  rintro k ⟨hk, hJ⟩
  by_cases hlt : k < l.length
  · repeat' ((conv => whnf); first | refine V.NCond.mk ?_ | refine V.NIf.not_ ?_ | refine V.NIf.dec_ ?_ | refine V.NIf.no (by omega) ?_ | refine V.NIf.yes (by omega) ?_ | refine V.NIf.mk (fun _ => ?_) (fun _ => ?_) | refine V.NWrap.ok (by omega) (by omega) ?_ | refine V.NWrap.u64 (by omega) (by omega) ?_ | refine V.NLt.mk (by omega) ?_ | refine V.NBoth.mk ?_ ?_ | refine V.NTF.yes (by omega) ?_ | refine V.NTF.no (by omega) ?_ | refine V.NTF.dec ?_ | refine V.NDraw.q (by exact rfl) (by kernel_rfl) ?_ | refine V.NApp.one (by first | omega | (simp; omega)) (by first | omega | (simp; omega)) ?_ | (refine NIdx.mk ⟨k, rfl, by omega, ?_⟩) | (refine V.NDraw.any (by kernel_rfl) ?_) | fail)
    all_goals (conv => whnf)
    all_goals first
      | exact V.NBack.at_ (k + 1) [] ⟨by omega, all_snoc (by omega) hJ (decide_eq_false (by omega))⟩ (by omega) (by repeat' (first | exact rfl | exact Iff.rfl | exact trivial | exact (fun _ _ => rfl) | exact (fun _ h => absurd h (Nat.not_lt_zero _)) | refine ⟨?_, ?_⟩ | exact Iff.rfl | exact congrArg (fun z => V.SV.one (V.At.val (Value.int .i64 z))) (by omega))) rfl (by repeat' (first | exact rfl | exact Iff.rfl | exact trivial | exact (fun _ _ => rfl) | exact (fun _ h => absurd h (Nat.not_lt_zero _)) | refine ⟨?_, ?_⟩ | exact Iff.rfl | exact congrArg (fun z => V.SV.one (V.At.val (Value.int .i64 z))) (by omega))) (by repeat' (first | exact rfl | exact Iff.rfl | exact trivial | exact (fun _ _ => rfl) | exact (fun _ h => absurd h (Nat.not_lt_zero _)) | refine ⟨?_, ?_⟩ | exact Iff.rfl | exact congrArg (fun z => V.SV.one (V.At.val (Value.int .i64 z))) (by omega))) (by repeat' (first | exact rfl | exact Iff.rfl | exact trivial | exact (fun _ _ => rfl) | exact (fun _ h => absurd h (Nat.not_lt_zero _)) | refine ⟨?_, ?_⟩ | exact Iff.rfl | exact congrArg (fun z => V.SV.one (V.At.val (Value.int .i64 z))) (by omega)))
      | exact V.fin1 (by
          have e := ixf_get hlt hJ (decide_eq_true (by constructor <;> assumption))
          unfold Bk.amAt
          rw [e, if_pos (by omega), Int.toNat_natCast])
      | trace_state
  · obtain rfl : k = l.length := by omega
    repeat' ((conv => whnf); first | refine V.NCond.mk ?_ | refine V.NIf.not_ ?_ | refine V.NIf.dec_ ?_ | refine V.NIf.no (by omega) ?_ | refine V.NIf.yes (by omega) ?_ | refine V.NIf.mk (fun _ => ?_) (fun _ => ?_) | refine V.NWrap.ok (by omega) (by omega) ?_ | refine V.NWrap.u64 (by omega) (by omega) ?_ | refine V.NLt.mk (by omega) ?_ | refine V.NBoth.mk ?_ ?_ | refine V.NTF.yes (by omega) ?_ | refine V.NTF.no (by omega) ?_ | refine V.NTF.dec ?_ | refine V.NDraw.q (by exact rfl) (by kernel_rfl) ?_ | refine V.NApp.one (by first | omega | (simp; omega)) (by first | omega | (simp; omega)) ?_ | (refine V.NDraw.any (by kernel_rfl) ?_) | fail)
    all_goals (conv => whnf)
    exact V.fin1 (by
      unfold Bk.amAt
      rw [ixf_no (all_whole (by omega) hJ), if_neg (by decide)])
end Go.Proofs.Ytbaafjimlbodeaa

/- What the document's functions on books answer: what is posted. -/
namespace Go.Proofs.Ytbaafjimlbodeaa
open Go Go.Sort Go.RowKit V
set_option maxRecDepth 100000
set_option linter.unusedVariables false
set_option linter.unusedSimpArgs false
set_option maxHeartbeats 4000000
theorem v_rPost (b l : List Po) (hb : b.length ≤ 9223372036854775807) (hn : l.length ≤ 9223372036854775807) : V.FnR Try.prog 14 [.arr 3 b.length (ga encP b), .arr 3 l.length (ga encP l)] [.one (.ref 0), .one (.ref 1)] (.tup [.one (.ref 2), .one (.val (.int .i64 (Bk.pE b l)))]) [.row 35 3 (Bk.pL b l).length (ga encP (Bk.pL b l))] := by
  have pc := Bk.pE_cases b l
  have c1 := v_rLines b hb
  have c2 := v_rPostsC l hn
  have lo := @Bk.lines_0 b
  have lc := @Bk.chk_0 l
  have pl : Bk.pE b l ≠ 0 → Bk.pL b l = [] := fun h => if_neg h
  generalize hL : Bk.lines b = L at *
  generalize hC : Bk.chk l = C at *
  refine V.FnR.mk_ V.Tok V.mixed Try.func14 rfl Try.ntmps14 (by kernel_rfl) rfl rfl rfl rfl ?_
  repeat' ((conv => whnf); first | (refine V.NApp.to_ b (by simp) (by have := (lo (by assumption)).1.le; omega) (by have := (lo (by assumption)).1.le; simp; omega) (fun k hk => absurd hk (Nat.not_lt_zero _)) (fun k hk => by rw [Nat.zero_add]) ?_) | (refine V.NApp.to_ (b ++ l) (by simp) (by have := (lo (by assumption)).1.le; have := (lc (by assumption)).1; simp; omega) (by have := (lo (by assumption)).1.le; have := (lc (by assumption)).1; simp; omega) (fun k hk => ga_left hk) (fun k hk => ga_right rfl hk) ?_) | refine V.NCond.mk ?_ | refine V.NIf.not_ ?_ | refine V.NIf.dec_ ?_ | refine V.NIf.no (by omega) ?_ | refine V.NIf.yes (by omega) ?_ | refine V.NIf.mk (fun _ => ?_) (fun _ => ?_) | refine V.NWrap.ok (by omega) (by omega) ?_ | refine V.NWrap.u64 (by omega) (by omega) ?_ | refine V.NLt.mk (by omega) ?_ | refine V.NBoth.mk ?_ ?_ | refine V.NTF.yes (by omega) ?_ | refine V.NTF.no (by omega) ?_ | refine V.NTF.dec ?_ | refine V.NDraw.q (by exact rfl) (by kernel_rfl) ?_ | refine V.NApp.one (by first | omega | (simp; omega)) (by first | omega | (simp; omega)) ?_ | (refine NOne.mk ?_ ?_; · (intro k hk; rfl)) | ((first | refine V.Fn.k (c1) [0] rfl ?_ ?_ | refine V.Fn.q (c1) [0] rfl ?_ ?_ | refine V.Fn.a (c1) [0] rfl ?_ ?_); · ((repeat' (first | exact rfl | exact Iff.rfl | exact trivial | exact (fun _ _ => rfl) | exact (fun _ h => absurd h (Nat.not_lt_zero _)) | refine ⟨?_, ?_⟩ | exact Iff.rfl | exact congrArg (fun z => V.SV.one (V.At.val (Value.int .i64 z))) (by omega))); done)) | ((first | refine V.Fn.k (c2) [1] rfl ?_ ?_ | refine V.Fn.q (c2) [1] rfl ?_ ?_ | refine V.Fn.a (c2) [1] rfl ?_ ?_); · ((repeat' (first | exact rfl | exact Iff.rfl | exact trivial | exact (fun _ _ => rfl) | exact (fun _ h => absurd h (Nat.not_lt_zero _)) | refine ⟨?_, ?_⟩ | exact Iff.rfl | exact congrArg (fun z => V.SV.one (V.At.val (Value.int .i64 z))) (by omega))); done)) | (refine V.NDraw.any (by kernel_rfl) ?_) | fail)
  all_goals (conv => whnf)
  · obtain ⟨⟨lb, _⟩, lc1, lc2, _⟩ := And.intro (lo (by assumption)) (lc (by assumption))
    have R : ∀ p ∈ b ++ l, Bk.Right p := fun p hp => (List.mem_append.1 hp).elim (lb.r p) (lc2 p)
    have nl : (b ++ l).length ≤ 460 := by have := lb.le; simp; omega
    have e : Bk.pE b l = Bk.mE (Bk.tot (b ++ l)) := by omega
    have eL : Bk.pL b l = Bk.mL (Bk.tot (b ++ l)) := by unfold Bk.pL Bk.mL; rw [e]
    rw [e, eL]
    have ct : ∀ a u : Nat, a < 101 → u < 21 → V.FnR Try.prog 33 [.arr 3 (b ++ l).length (ga encP (b ++ l))] [.one (.ref 0), .one (.val (.int .i64 ((a : Int)))), .one (.val (.int .i64 ((u : Int))))] (.one (.ref 1)) [.row 3 1 (Bk.amk (b ++ l) (21 * a + u)).length (ga e1 (Bk.amk (b ++ l) (21 * a + u)))] := fun a u ha hu => by
      have c := v_amof (b ++ l) (a : Int) (u : Int) (by omega)
      have q := Bk.sel_amk R (21 * a + u)
      rw [show (21 * a + u) / 21 = a by omega, show (21 * a + u) % 21 = u by omega] at q
      rwa [q] at c
    have cs : ∀ k, V.Fn Try.prog 24 [.arr 1 (Bk.amk (b ++ l) k).length (ga e1 (Bk.amk (b ++ l) k))] [.one (.ref 0)] (.tuple #[.int .i64 (M.sofV (Bk.amk (b ++ l) k)), .bool (decide (M.Amt (Bk.tot (b ++ l) k)))]) := fun k => v_sumof (Bk.amk (b ++ l) k) (by have := Bk.amk_len (b ++ l) k; omega) (Bk.amk_amt R k)
    have se : ∀ k, M.Amt (Bk.tot (b ++ l) k) → M.sofV (Bk.amk (b ++ l) k) = Bk.tot (b ++ l) k := fun k h => (sofV_eq (Bk.amk (b ++ l) k)).resolve_right (fun z => z h)
    generalize Bk.tot (b ++ l) = T at *
    refine V.NLoop.auto (fun (a : Nat) => [(9, .one (.val (.int .i64 a))), (8, .one (.ref 6))]) (fun (a : Nat) => [(6, .row 35 3 (Bk.out T (21 * a)).length (ga encP (Bk.out T (21 * a))))]) [] [] (fun (a : Nat) => 101 - a) (fun (a : Nat) => a ≤ 101 ∧ ∀ k, k < 21 * a → M.Amt (T k)) 0 ⟨Nat.zero_le _, fun u h => absurd h (Nat.not_lt_zero _)⟩ (by repeat' (first | exact rfl | exact Iff.rfl | exact trivial | exact (fun _ _ => rfl) | exact (fun _ h => absurd h (Nat.not_lt_zero _)) | refine ⟨?_, ?_⟩ | exact Iff.rfl | exact congrArg (fun z => V.SV.one (V.At.val (Value.int .i64 z))) (by omega))) (by repeat' (first | exact rfl | exact Iff.rfl | exact trivial | exact (fun _ _ => rfl) | exact (fun _ h => absurd h (Nat.not_lt_zero _)) | refine ⟨?_, ?_⟩ | exact Iff.rfl | exact congrArg (fun z => V.SV.one (V.At.val (Value.int .i64 z))) (by omega))) (fun _ => ⟨rfl, rfl⟩) ?_; (conv => whnf); refine ⟨⟨rfl, rfl⟩, ?_⟩
    rintro a ⟨ha, hJ⟩
    by_cases ha1 : a < 101
    · repeat' ((conv => whnf); first | refine V.NCond.mk ?_ | refine V.NIf.not_ ?_ | refine V.NIf.dec_ ?_ | refine V.NIf.no (by omega) ?_ | refine V.NIf.yes (by omega) ?_ | refine V.NIf.mk (fun _ => ?_) (fun _ => ?_) | refine V.NWrap.ok (by omega) (by omega) ?_ | refine V.NWrap.u64 (by omega) (by omega) ?_ | refine V.NLt.mk (by omega) ?_ | refine V.NBoth.mk ?_ ?_ | refine V.NTF.yes (by omega) ?_ | refine V.NTF.no (by omega) ?_ | refine V.NTF.dec ?_ | refine V.NDraw.q (by exact rfl) (by kernel_rfl) ?_ | refine V.NApp.one (by first | omega | (simp; omega)) (by first | omega | (simp; omega)) ?_ | (refine V.NDraw.any (by kernel_rfl) ?_) | fail)
      all_goals (conv => whnf)
      refine V.NLoop.auto (fun (u : Nat) => [(10, .one (.val (.int .i64 u))), (8, .one (.ref 6))]) (fun (u : Nat) => [(6, .row 35 3 (Bk.out T (21 * a + u)).length (ga encP (Bk.out T (21 * a + u))))]) [] [] (fun (u : Nat) => 21 - u) (fun (u : Nat) => u ≤ 21 ∧ ∀ k, k < 21 * a + u → M.Amt (T k)) 0 ⟨Nat.zero_le _, hJ⟩ (by repeat' (first | exact rfl | exact Iff.rfl | exact trivial | exact (fun _ _ => rfl) | exact (fun _ h => absurd h (Nat.not_lt_zero _)) | refine ⟨?_, ?_⟩ | exact Iff.rfl | exact congrArg (fun z => V.SV.one (V.At.val (Value.int .i64 z))) (by omega))) (by repeat' (first | exact rfl | exact Iff.rfl | exact trivial | exact (fun _ _ => rfl) | exact (fun _ h => absurd h (Nat.not_lt_zero _)) | refine ⟨?_, ?_⟩ | exact Iff.rfl | exact congrArg (fun z => V.SV.one (V.At.val (Value.int .i64 z))) (by omega))) (fun _ => ⟨rfl, rfl⟩) ?_; (conv => whnf); refine ⟨⟨rfl, rfl⟩, ?_⟩
      rintro u ⟨hu, hK⟩
      by_cases hu1 : u < 21
      · have c := ct a u ha1 hu1
        have d := cs (21 * a + u)
        have g := se (21 * a + u)
        have ol := Bk.out_len T (21 * a + u)
        have os := Bk.out_succ T (21 * a + u)
        rw [show (21 * a + u) / 21 = a by omega, show (21 * a + u) % 21 = u by omega] at os
        generalize M.sofV (Bk.amk (b ++ l) (21 * a + u)) = sv at *
        have o1 : decide (M.Amt (T (21 * a + u))) = true ↔ M.Amt (T (21 * a + u)) := decide_eq_true_iff
        generalize decide (M.Amt (T (21 * a + u))) = o at *
        repeat' ((conv => whnf); first | (refine NApp.one (en := encP) (l := Bk.out T (21 * a + u)) (x := ⟨(a : Int), (u : Int), sv⟩) (by simp; omega) (by simp; omega) ?_) | refine V.NCond.mk ?_ | refine V.NIf.not_ ?_ | refine V.NIf.dec_ ?_ | refine V.NIf.no (by omega) ?_ | refine V.NIf.yes (by omega) ?_ | refine V.NIf.mk (fun _ => ?_) (fun _ => ?_) | refine V.NWrap.ok (by omega) (by omega) ?_ | refine V.NWrap.u64 (by omega) (by omega) ?_ | refine V.NLt.mk (by omega) ?_ | refine V.NBoth.mk ?_ ?_ | refine V.NTF.yes (by omega) ?_ | refine V.NTF.no (by omega) ?_ | refine V.NTF.dec ?_ | refine V.NDraw.q (by exact rfl) (by kernel_rfl) ?_ | refine V.NApp.one (by first | omega | (simp; omega)) (by first | omega | (simp; omega)) ?_ | ((first | refine V.FnR.k_ (c) [5] rfl ?_ ?_ | refine V.FnR.a_ (c) [5] rfl ?_ ?_); · ((repeat' (first | exact rfl | exact Iff.rfl | exact trivial | exact (fun _ _ => rfl) | exact (fun _ h => absurd h (Nat.not_lt_zero _)) | refine ⟨?_, ?_⟩ | exact Iff.rfl | exact congrArg (fun z => V.SV.one (V.At.val (Value.int .i64 z))) (by omega))); done)) | ((first | refine V.Fn.k (d) [7] rfl ?_ ?_ | refine V.Fn.q (d) [7] rfl ?_ ?_ | refine V.Fn.a (d) [7] rfl ?_ ?_); · ((repeat' (first | exact rfl | exact Iff.rfl | exact trivial | exact (fun _ _ => rfl) | exact (fun _ h => absurd h (Nat.not_lt_zero _)) | refine ⟨?_, ?_⟩ | exact Iff.rfl | exact congrArg (fun z => V.SV.one (V.At.val (Value.int .i64 z))) (by omega))); done)) | (refine V.NDraw.any (by kernel_rfl) ?_) | fail)
        all_goals (conv => whnf)
        · have g := g (o1.1 (by assumption))
          exact V.NBack.at_ (u + 1) [] ⟨by omega, fun k hk => (show k < 21 * a + u ∨ k = 21 * a + u by omega).elim (hK k) (fun e => by rw [e]; exact o1.1 (by assumption))⟩ (by omega) (by repeat' (first | exact rfl | exact Iff.rfl | exact trivial | exact (fun _ _ => rfl) | exact (fun _ h => absurd h (Nat.not_lt_zero _)) | refine ⟨?_, ?_⟩ | exact Iff.rfl | exact congrArg (fun z => V.SV.one (V.At.val (Value.int .i64 z))) (by omega))) rfl ⟨ObLe.as_ (by rw [show 21 * a + (u + 1) = 21 * a + u + 1 by omega, os, if_pos (by omega), List.append_nil]), trivial⟩ (by repeat' (first | exact rfl | exact Iff.rfl | exact trivial | exact (fun _ _ => rfl) | exact (fun _ h => absurd h (Nat.not_lt_zero _)) | refine ⟨?_, ?_⟩ | exact Iff.rfl | exact congrArg (fun z => V.SV.one (V.At.val (Value.int .i64 z))) (by omega))) (by repeat' (first | exact rfl | exact Iff.rfl | exact trivial | exact (fun _ _ => rfl) | exact (fun _ h => absurd h (Nat.not_lt_zero _)) | refine ⟨?_, ?_⟩ | exact Iff.rfl | exact congrArg (fun z => V.SV.one (V.At.val (Value.int .i64 z))) (by omega)))
        · have g := g (o1.1 (by assumption))
          exact V.NBack.at_ (u + 1) [(6, 9)] ⟨by omega, fun k hk => (show k < 21 * a + u ∨ k = 21 * a + u by omega).elim (hK k) (fun e => by rw [e]; exact o1.1 (by assumption))⟩ (by omega) (by repeat' (first | exact rfl | exact Iff.rfl | exact trivial | exact (fun _ _ => rfl) | exact (fun _ h => absurd h (Nat.not_lt_zero _)) | refine ⟨?_, ?_⟩ | exact Iff.rfl | exact congrArg (fun z => V.SV.one (V.At.val (Value.int .i64 z))) (by omega))) rfl ⟨ObLe.as_ (by rw [show 21 * a + (u + 1) = 21 * a + u + 1 by omega, os, if_neg (by omega), g]), trivial⟩ (by repeat' (first | exact rfl | exact Iff.rfl | exact trivial | exact (fun _ _ => rfl) | exact (fun _ h => absurd h (Nat.not_lt_zero _)) | refine ⟨?_, ?_⟩ | exact Iff.rfl | exact congrArg (fun z => V.SV.one (V.At.val (Value.int .i64 z))) (by omega))) (by repeat' (first | exact rfl | exact Iff.rfl | exact trivial | exact (fun _ _ => rfl) | exact (fun _ h => absurd h (Nat.not_lt_zero _)) | refine ⟨?_, ?_⟩ | exact Iff.rfl | exact congrArg (fun z => V.SV.one (V.At.val (Value.int .i64 z))) (by omega)))
        · have w : Bk.mE T = 8 := if_pos (Bk.wide_yes (k := 21 * a + u) (by omega) (fun h => absurd (o1.2 h) (by assumption)))
          rw [show Bk.mL T = [] from if_neg (by omega), w]
          exact NRet.mk_ [some 8] rfl ⟨rfl, rfl, trivial⟩ ⟨⟨rfl, rfl, rfl, fun k hk => absurd hk (Nat.not_lt_zero _)⟩, trivial⟩
      · obtain rfl : u = 21 := by omega
        repeat' ((conv => whnf); first | refine V.NCond.mk ?_ | refine V.NIf.not_ ?_ | refine V.NIf.dec_ ?_ | refine V.NIf.no (by omega) ?_ | refine V.NIf.yes (by omega) ?_ | refine V.NIf.mk (fun _ => ?_) (fun _ => ?_) | refine V.NWrap.ok (by omega) (by omega) ?_ | refine V.NWrap.u64 (by omega) (by omega) ?_ | refine V.NLt.mk (by omega) ?_ | refine V.NBoth.mk ?_ ?_ | refine V.NTF.yes (by omega) ?_ | refine V.NTF.no (by omega) ?_ | refine V.NTF.dec ?_ | refine V.NDraw.q (by exact rfl) (by kernel_rfl) ?_ | refine V.NApp.one (by first | omega | (simp; omega)) (by first | omega | (simp; omega)) ?_ | (refine V.NDraw.any (by kernel_rfl) ?_) | fail)
        all_goals (conv => whnf)
        exact V.NBack.at_ (a + 1) [] ⟨by omega, fun k hk => hK k (by omega)⟩ (by omega) (by repeat' (first | exact rfl | exact Iff.rfl | exact trivial | exact (fun _ _ => rfl) | exact (fun _ h => absurd h (Nat.not_lt_zero _)) | refine ⟨?_, ?_⟩ | exact Iff.rfl | exact congrArg (fun z => V.SV.one (V.At.val (Value.int .i64 z))) (by omega))) rfl ⟨ObLe.as_ (by rw [show 21 * (a + 1) = 21 * a + 21 by omega]), trivial⟩ (by repeat' (first | exact rfl | exact Iff.rfl | exact trivial | exact (fun _ _ => rfl) | exact (fun _ h => absurd h (Nat.not_lt_zero _)) | refine ⟨?_, ?_⟩ | exact Iff.rfl | exact congrArg (fun z => V.SV.one (V.At.val (Value.int .i64 z))) (by omega))) (by repeat' (first | exact rfl | exact Iff.rfl | exact trivial | exact (fun _ _ => rfl) | exact (fun _ h => absurd h (Nat.not_lt_zero _)) | refine ⟨?_, ?_⟩ | exact Iff.rfl | exact congrArg (fun z => V.SV.one (V.At.val (Value.int .i64 z))) (by omega)))
    · obtain rfl : a = 101 := by omega
      have m := Bk.mE_is (T := T) fun k hk => hJ k (by omega)
      have q : Bk.out T (21 * 101) = Bk.out T 2121 := rfl
      rw [q]
      repeat' ((conv => whnf); first | refine V.NCond.mk ?_ | refine V.NIf.not_ ?_ | refine V.NIf.dec_ ?_ | refine V.NIf.no (by omega) ?_ | refine V.NIf.yes (by omega) ?_ | refine V.NIf.mk (fun _ => ?_) (fun _ => ?_) | refine V.NWrap.ok (by omega) (by omega) ?_ | refine V.NWrap.u64 (by omega) (by omega) ?_ | refine V.NLt.mk (by omega) ?_ | refine V.NBoth.mk ?_ ?_ | refine V.NTF.yes (by omega) ?_ | refine V.NTF.no (by omega) ?_ | refine V.NTF.dec ?_ | refine V.NDraw.q (by exact rfl) (by kernel_rfl) ?_ | refine V.NApp.one (by first | omega | (simp; omega)) (by first | omega | (simp; omega)) ?_ | (refine V.NDraw.any (by kernel_rfl) ?_) | fail)
      all_goals (conv => whnf)
      · have m : Bk.mE T = 2 := m.trans (if_pos (by omega))
        rw [show Bk.mL T = [] from if_neg (by omega), m]
        exact NRet.mk_ [some 7] rfl ⟨rfl, rfl, trivial⟩ ⟨⟨rfl, rfl, rfl, fun k hk => absurd hk (Nat.not_lt_zero _)⟩, trivial⟩
      · have m : Bk.mE T = 0 := m.trans (if_neg (by omega))
        rw [show Bk.mL T = Bk.out T 2121 from if_pos m, m]
        exact NRet.mk_ [some 6] rfl ⟨rfl, rfl, trivial⟩ ⟨⟨rfl, rfl, rfl, fun k hk => rfl⟩, trivial⟩
  · have e : Bk.pE b l = C := by omega
    rw [pl (by omega), e]
    exact NRet.mk_ [some 3] rfl ⟨rfl, rfl, trivial⟩ ⟨⟨rfl, rfl, rfl, fun k hk => absurd hk (Nat.not_lt_zero _)⟩, trivial⟩
  · have e : Bk.pE b l = L := by omega
    rw [pl (by omega), e]
    exact NRet.mk_ [some 3] rfl ⟨rfl, rfl, trivial⟩ ⟨⟨rfl, rfl, rfl, fun k hk => absurd hk (Nat.not_lt_zero _)⟩, trivial⟩
end Go.Proofs.Ytbaafjimlbodeaa

/- Ranges over functions, walked by verification conditions: the iterator is walked in place, and the loop's body where the iterator calls yield. -/
namespace Go.Proofs.Ytbaafjimlbodeaa.V
open Go Go.RowKit
set_option linter.unusedVariables false
set_option linter.unusedSimpArgs false

def lpK (obs : Obs) (i : Nat) (K : Lc → Env → Lst → Prop) : Prop := fndK obs i fun o => match o with
  | .lp L env st => K L env st
  | _ => False
theorem lpK_spec {obs : Obs} {i : Nat} {K : Lc → Env → Lst → Prop} (h : lpK obs i K) : ∃ L env st, fnd obs i = some (.lp L env st) ∧ K L env st := by
  obtain ⟨o, ho, h⟩ := fndK_spec h
  cases o <;> first | exact h.elim | exact ⟨_, _, _, ho, h⟩
/-- the parameters of a round -/
def zipK (sz : Nat) : List Nat → List SV → Env → (Env → Prop) → Prop
  | [], [], env, K => K env
  | p :: ps, v :: vs, env, K => match Nat.blt p sz with
    | true => zipK sz ps vs ((p, v) :: env) K
    | false => False
  | _, _, _, _ => False
theorem zip_spec {sz : Nat} {ρ : Rho} : ∀ {ps : List Nat} {vs : List SV} {xs : List Value} {env : Env} {tmps : Array Value} {K : Env → Prop}, EnvR sz ρ env { tmps := tmps, defers := [] } → Svs ρ vs xs → zipK sz ps vs env K →
    ∃ env', K env' ∧ xs.length = ps.length ∧ EnvR sz ρ env' { tmps := (ps.zip xs).foldl (fun t (p : Nat × Value) => t.setIfInBounds p.1 p.2) tmps, defers := [] }
  | [], [], xs, env, tmps, K, hE, hs, h => by
    have e : xs = [] := hs
    subst e
    exact ⟨env, h, rfl, hE⟩
  | p :: ps, v :: vs, xs, env, tmps, K, hE, ⟨x, r, e, hv, hr⟩, h => by
    subst e
    unfold zipK at h
    cases hb : Nat.blt p sz <;> simp only [hb] at h
    have hd : p < sz := by simpa [Nat.blt_eq] using hb
    have hsz : tmps.size = sz := hE.size
    have hE' : EnvR sz ρ ((p, v) :: env) { tmps := tmps.setIfInBounds p x, defers := [] } := by
      refine ⟨by simp [hsz], fun t u hu => ?_⟩
      rcases fnd_cons hu with ⟨rfl, rfl⟩ | ⟨hn, hu⟩
      · exact ⟨x, by simp [hsz, hd], SV.is_of1 hv⟩
      · obtain ⟨y, hy, h2⟩ := hE.env t u hu
        exact ⟨y, by rw [Array.getElem?_setIfInBounds_ne hn]; exact hy, h2⟩
    obtain ⟨env', hK, hl, hE2⟩ := zip_spec hE' hr h
    exact ⟨env', hK, by simp [hl], hE2⟩
  | [], _ :: _, _, _, _, _, _, _, h => h.elim
  | _ :: _, [], _, _, _, _, _, _, h => h.elim
/-- what becomes of the record at a round's end -/
def rndK (i : Nat) (K : SV → Obs → Nat → Prop) : Kon := fun e _ obs nx => lpK obs i fun L env st => match st with
  | .busy => match e with
    | .nrm => K (.one (.tf true)) ((i, .lp L env .ready) :: obs) nx
    | .exit id => K (.one (.tf false)) ((i, .lp L env (.done (.exit id))) :: obs) nx
    | .ret => K (.one (.tf false)) ((i, .lp L env (.done .ret)) :: obs) nx
  | _ => False
/-- what is done when the iterator has returned -/
def endK (i : Nat) (env : Env) (K : Kon) (obs : Obs) (nx : Nat) : Prop := lpK obs i fun _ _ st => match st with
  | .ready => K .nrm env ((i, .gone) :: obs) nx
  | .done (.exit id) => K (.exit id) env ((i, .gone) :: obs) nx
  | .done .ret => K .ret env ((i, .gone) :: obs) nx
  | _ => False
theorem put_below {B l : Nat} {w : World} (h : B ≤ l) (o : Obj) : Below B w (w.putObj l o) :=
  ⟨rfl, rfl, rfl, by rw [World.putObj_size]; exact Nat.le_refl _, fun k hk => World.putObj_heap_other (by omega)⟩
theorem put_oth {l : Nat} {w : World} {r : Loop} (h : w.heap[l]? = some (.loop r)) (o : Obj) : Oth w (w.putObj l o) :=
  oth_one (b := l) (fun k hk => World.putObj_heap_other hk) fun D e => by rw [h] at e; cases e
theorem Cls.lpset {B nx : Nat} {ρ : Rho} {obs : Obs} {w : World} {i l : Nat} {L : Lc} {env : Env} {st : Lst} (hC : Cls B ρ obs nx w) (ho : fnd obs i = some (.lp L env st)) (hl : ρ i = some (.func (.yield l) #[] #[])) :
    ∃ fn tmps D, B ≤ l ∧ w.heap[l]? = some (.loop { state := st.state, pending := st.pend, fn := fn, tmps := tmps, params := L.ps.toArray, assign := L.assign, body := L.body, defers := D }) ∧
      ∀ st' : Lst, Cls B ρ ((i, .lp L env st') :: obs) nx (w.putObj l (.loop { state := st'.state, pending := st'.pend, fn := fn, tmps := tmps, params := L.ps.toArray, assign := L.assign, body := L.body, defers := D })) := by
  obtain ⟨l', fn, tmps, D, e, hB, hh, hE⟩ := hC.sat i _ ho
  rw [hl] at e
  have e : l = l' := by injection e with e; injection e with e; injection e
  subst e
  have hf : ∀ st' : Lst, foot ρ i (.lp L env st') = some l := fun st' => by simp [foot, hl]
  exact ⟨fn, tmps, D, hB, hh, fun st' => hC.set ho rfl (hf st) (.inl (hf st')) rfl World.putObj_size (fun k hk => World.putObj_heap_other hk)
    ⟨l, fn, tmps, D, hl, hB, World.putObj_heap_same (Array.getElem?_eq_some_iff.1 hh).1, hE⟩⟩
theorem Cls.kill {B nx : Nat} {ρ : Rho} {obs : Obs} {w w' : World} {i b : Nat} {o : Ob} (h : Cls B ρ obs nx w) (ho : fnd obs i = some o) (hm : o.mut = true) (hf : foot ρ i o = some b) (hsz : w'.heap.size = w.heap.size) (hk : ∀ k, k ≠ b → w'.heap[k]? = w.heap[k]?) : Cls B ρ ((i, .gone) :: obs) nx w' := by
  refine ⟨by rw [hsz]; exact h.le, fun j u hu => ?_, fun j k o1 o2 c h1 h2 hne hmu hf1 => ?_, h.new⟩
  · rcases fnd_cons hu with ⟨rfl, rfl⟩ | ⟨hn, hu⟩
    · trivial
    · exact (h.sat j u hu).keep (by omega) fun c hc => hk c (fun e => by subst e; exact h.apart i j o u c ho hu hn hm hf hc)
  · rcases fnd_cons h1 with ⟨rfl, rfl⟩ | ⟨hn1, h1⟩
    · cases hf1
    · rcases fnd_cons h2 with ⟨rfl, rfl⟩ | ⟨hn2, h2⟩
      · intro e; cases e
      · exact h.apart j k o1 o2 c h1 h2 hne hmu hf1

/-- a round -/
theorem NYield.mk_ {P : Program} {T : TT} (hT : TTok P T) (hm : P.follows .mixedOrders = true) {i : Nat} {L : Lc} {env0 : Env} {sz : Nat} {ps : List Nat} {assign body : Code} (hL : L = ⟨sz, ps, assign, body⟩) (hc : (calm assign && calm body) = true)
    {args : List SV} {obs : Obs} {nx : Nat} {K : SV → Obs → Nat → Prop} (ho : fnd obs i = some (.lp L env0 .ready))
    (h : zipK sz ps args env0 fun env => vc P T sz nx assign env obs nx fun e env1 obs1 nx1 => match e with
      | .nrm => lpK obs1 i fun L1 e1 st => match st with
        | .ready => vc P T sz nx body env1 ((i, .lp L1 e1 .busy) :: obs1) nx1 (rndK i K)
        | _ => False
      | _ => False) : NYield P i args obs nx K :=
  ⟨fun B ρ w xs l n hC hs hl => by
    subst hL
    simp only [Bool.and_eq_true] at hc
    obtain ⟨l', fn, tmps, D, e, hB, hh, hE0⟩ := hC.sat i _ ho
    rw [hl] at e
    have e : l = l' := by injection e with e; injection e with e; injection e
    subst e
    obtain ⟨env, h, hlen, hE⟩ := zip_spec hE0 hs h
    have hy := run_yield (P := P) (args := xs.toArray) hh (by simp [hlen])
    have hin : i < nx := by
      rcases Nat.lt_or_ge i nx with q | q
      · exact q
      · rw [hC.new i q] at hl; cases hl
    have ex : ∀ {ρ1 : Rho} {ds : List Deferred} {w1 : World}, Wy B ⟨w, ρ, nx⟩ ρ1 ds w1 → ∀ j y, ρ j = some y → ρ1 j = some y := fun {ρ1 ds w1} hW j y hy => by
      by_cases hj : j < nx
      · exact hW.e j y hj hy
      · rw [hC.new j (by omega)] at hy; cases hy
    refine ⟨fn, _, assign, body, hy, roundIn_of_wpIn trivial ?_⟩
    have et : ((ps.toArray.zip xs.toArray).foldl (fun t (x : Nat × Value) => match x with | (t', a) => t.setIfInBounds t' a) tmps) = (ps.zip xs).foldl (fun t (p : Nat × Value) => t.setIfInBounds p.1 p.2) tmps := by
      rw [← Array.foldl_toList, Array.toList_zip]
    rw [et]
    have h1 := vc_sound (ro := some l) (n := n) (w0 := ⟨w, ρ, nx⟩) hT hm assign (.inr hc.1) h hE hC ⟨Below.refl _ _, Oth.refl _, fun _ _ _ h => h, [], rfl, List.nodup_nil, by simp⟩
    refine wpIn_mono h1 ?_
    intro e a1 w1 q
    cases e with
    | normal =>
      obtain ⟨ρ1, env1, obs1, nx1, hk, hE1, hC1, hW1⟩ := q
      obtain ⟨L1, e1, st, ho1, hk⟩ := lpK_spec hk
      split at hk
      rotate_left
      · exact hk.elim
      have hl1 := ex hW1 _ _ hl
      obtain ⟨fn1, tmps1, D1, _, hh1, hset⟩ := hC1.lpset ho1 hl1
      refine ⟨_, run_beginRound hh1 rfl, ?_⟩
      have h2 := vc_sound (ro := some l) (n := n) (w0 := ⟨w, ρ, nx⟩) hT hm body (.inr hc.2) hk hE1 (hset .busy) (hW1.trans (put_below hB _) (put_oth hh1 _))
      refine wpIn_mono h2 ?_
      intro e a2 w2 q
      have fin : ∀ (e : Ex) (st : Lst) (b : Bool) (K2 : Env → Obs → Nat → Prop), Nx B ⟨w, ρ, nx⟩ sz K2 a2 w2 → (∀ env2 obs2 nx2, K2 env2 obs2 nx2 → lpK obs2 i fun L env s => match s with
            | .busy => K (.one (.tf b)) ((i, .lp L env st) :: obs2) nx2
            | _ => False) → st ≠ .busy → b = st.pend.isNone → st.state = (if st.pend.isNone then .ready else .done) →
          ∃ v w', (Instr.endRound l st.pend).run P w2 = .ok v w' ∧ ∃ u obs' nx' ρ' x, K u obs' nx' ∧ (∀ i y, ρ i = some y → ρ' i = some y) ∧ Ending.returned v = .returned x ∧ u.is ρ' x ∧ Cls B ρ' obs' nx' w' ∧ Below B w w' ∧ Oth w w' := by
        rintro e st b K2 ⟨ρ2, env2, obs2, nx2, hk2, hE2, hC2, hW2⟩ hK hnb hb hst
        obtain ⟨L2, e2, s2, ho2, hk2⟩ := lpK_spec (hK _ _ _ hk2)
        split at hk2
        rotate_left
        · exact hk2.elim
        obtain ⟨fn2, tmps2, D2, _, hh2, hset2⟩ := hC2.lpset ho2 (ex hW2 _ _ hl)
        refine ⟨_, _, run_endRound st.pend hh2, _, _, _, ρ2, _, hk2, ex hW2, rfl, ?_, ?_, hW2.b.trans (put_below hB _), hW2.o.trans (put_oth hh2 _)⟩
        · subst hb; exact rfl
        · have := hset2 st
          rw [hst] at this
          exact this
      cases e with
      | normal => exact fin .nrm .ready true _ q (fun _ _ _ h => h) (fun q => by cases q) rfl rfl
      | ret => exact fin .ret (.done .ret) false _ q (fun _ _ _ h => h) (fun q => by cases q) rfl rfl
      | exit id => exact fin (.exit id) (.done (.exit id)) false _ q (fun _ _ _ h => h) (fun q => by cases q) rfl rfl
      | goto t => exact q.elim
      | panic c => exact q.elim
      | outgrown => exact q.elim
    | exit id => obtain ⟨_, _, _, _, hk, _⟩ := q; exact hk.elim
    | ret => obtain ⟨_, _, _, _, hk, _⟩ := q; exact hk.elim
    | goto t => exact q
    | panic c => exact q
    | outgrown => exact q⟩
structure NIs (a b : Nat) (K : Prop) : Prop where
  e : a = b
  h : K
theorem run_enter {P : Program} {f : FuncId} (hb : hasBody P f = true) (args : Array Value) (w : World) : (callFunc f args).run P w = .ok (.enter f args) w := by
  unfold hasBody at hb
  cases hf : P.funcs[f]? with
  | none => rw [hf] at hb; cases hb
  | some fn =>
    rw [hf] at hb
    simp only [Bool.and_eq_true, Bool.not_eq_true', Option.isSome_iff_ne_none] at hb
    obtain ⟨h1, h2⟩ := hb
    have h3 : fn.body.isNone = false := by cases hq : fn.body with | none => exact absurd hq h1 | some c => rfl
    have h4 : ¬ fn.name = "runtime.NumGoroutine" := by simpa using h2
    simp [callFunc, hf, h4, h3, Sem.run_bind]
    exact fun q => absurd q h1
/-! a row that the rounds change takes a new name -/
def mvA (i j : Nat) : At → At
  | .ref k => match Nat.beq k i with
    | true => .ref j
    | false => .ref k
  | a => a
def mvOb (i j : Nat) : Ob → Ob
  | .box t l => .box t (l.map (mvA i j))
  | o => o
def mvObs (i j : Nat) : Obs → Obs
  | [] => []
  | (k, o) :: r => match Nat.beq k i with
    | true => (k, .gone) :: mvObs i j r
    | false => (k, mvOb i j o) :: mvObs i j r
theorem mvObs_get {i j k : Nat} {o : Ob} : ∀ {obs : Obs}, fnd (mvObs i j obs) k = some o → (k = i ∧ o = .gone) ∨ (k ≠ i ∧ ∃ o', fnd obs k = some o' ∧ o = mvOb i j o')
  | [], h => by cases h
  | (u, x) :: r, h => by
    unfold mvObs at h
    cases hb : Nat.beq u i <;> simp only [hb] at h
    · rcases fnd_cons h with ⟨rfl, rfl⟩ | ⟨hn, h⟩
      · exact .inr ⟨Nat.ne_of_beq_eq_false hb, x, by unfold fnd; rw [Nat.beq_refl], rfl⟩
      · rcases mvObs_get h with q | ⟨q, o', h1, h2⟩
        · exact .inl q
        · refine .inr ⟨q, o', ?_, h2⟩
          unfold fnd
          cases hb2 : Nat.beq u k
          · exact h1
          · exact absurd (Nat.eq_of_beq_eq_true hb2) hn
    · have e := Nat.eq_of_beq_eq_true hb
      subst e
      rcases fnd_cons h with ⟨rfl, rfl⟩ | ⟨hn, h⟩
      · exact .inl ⟨rfl, rfl⟩
      · rcases mvObs_get h with q | ⟨q, o', h1, h2⟩
        · exact .inl q
        · refine .inr ⟨q, o', ?_, h2⟩
          unfold fnd
          cases hb2 : Nat.beq u k
          · exact h1
          · exact absurd (Nat.eq_of_beq_eq_true hb2) hn
theorem Ats.mv {i j : Nat} {ρ : Rho} (hj : ρ j = ρ i) : ∀ {l : List At} {x : List Value}, Ats ρ l x → Ats ρ (l.map (mvA i j)) x
  | [], _, h => h
  | a :: l, _, ⟨u, r, hx, ha, hr⟩ => by
    refine ⟨u, r, hx, ?_, Ats.mv hj hr⟩
    cases a with
    | ref k =>
      show (mvA i j (.ref k)).is ρ u
      simp only [mvA]
      cases hb : Nat.beq k i
      · exact ha
      · have e := Nat.eq_of_beq_eq_true hb
        subst e
        exact ⟨hj.trans ha.1, ha.2⟩
    | _ => exact ha
theorem foot_mv {ρ : Rho} {i j k : Nat} {o : Ob} : foot ρ k (mvOb i j o) = foot ρ k o := by cases o <;> rfl
def mvAsK (i j : Nat) : List At → (List At → Prop) → Prop
  | [], K => K []
  | a :: l, K => match a with
    | .ref k => match Nat.beq k i with
      | true => mvAsK i j l fun r => K (.ref j :: r)
      | false => mvAsK i j l fun r => K (.ref k :: r)
    | a => mvAsK i j l fun r => K (a :: r)
theorem mvAsK_eq {i j : Nat} : ∀ {l : List At} {K : List At → Prop}, mvAsK i j l K → K (l.map (mvA i j))
  | [], _, h => h
  | a :: l, K, h => by
    unfold mvAsK at h
    cases a with
    | ref k =>
      simp only at h
      rw [List.map_cons]
      show K (mvA i j (.ref k) :: _)
      simp only [mvA]
      cases hb : Nat.beq k i <;> simp only [hb] at h ⊢ <;> exact mvAsK_eq (K := fun r => K (_ :: r)) h
    | _ => exact mvAsK_eq (K := fun r => K (_ :: r)) h
def mvK (i j : Nat) : Obs → (Obs → Prop) → Prop
  | [], K => K []
  | (k, o) :: r, K => match Nat.beq k i with
    | true => mvK i j r fun r' => K ((k, .gone) :: r')
    | false => match o with
      | .box t l => mvAsK i j l fun l' => mvK i j r fun r' => K ((k, .box t l') :: r')
      | o => mvK i j r fun r' => K ((k, o) :: r')
theorem mvK_eq {i j : Nat} : ∀ {obs : Obs} {K : Obs → Prop}, mvK i j obs K → K (mvObs i j obs)
  | [], _, h => h
  | (k, o) :: r, K, h => by
    unfold mvK at h
    unfold mvObs
    cases hb : Nat.beq k i <;> simp only [hb] at h ⊢
    · cases o with
      | box t l => exact mvK_eq (K := fun r' => K (_ :: r')) (mvAsK_eq h)
      | _ => exact mvK_eq (K := fun r' => K (_ :: r')) h
    · exact mvK_eq (K := fun r' => K (_ :: r')) h
theorem Cls.mv {B nx : Nat} {ρ : Rho} {obs : Obs} {w : World} (i : Nat) {t s n : Nat} {get : Nat → List Value} (hC : Cls B ρ obs nx w) (ho : fnd obs i = some (.row t s n get)) :
    ∃ ρ', Ext ρ ρ' ∧ Cls B ρ' ((nx, .row t s n get) :: mvObs i nx obs) (nx + 1) w := by
  obtain ⟨v, hv, hr⟩ := hC.sat i _ ho
  have hx : Ext ρ (upd ρ nx v) := ext_upd (hC.new nx (Nat.le_refl _))
  have hne : i ≠ nx := fun e => by rw [e, hC.new nx (Nat.le_refl _)] at hv; cases hv
  have hi : upd ρ nx v nx = upd ρ nx v i := by rw [upd_same, upd_ne v hne, hv]
  have ol : ∀ k o, nx ≠ k → foot (upd ρ nx v) k o = foot ρ k o := fun k o hn => foot_eq (upd_ne v (Ne.symm hn))
  have fnx : foot (upd ρ nx v) nx (.row t s n get) = foot ρ i (.row t s n get) := by rw [foot_at hi, foot_eq (upd_ne v hne)]
  refine ⟨upd ρ nx v, hx, ⟨hC.le, fun k o hk => ?_, fun j k o1 o2 b h1 h2 hne' hmu hf => ?_, fun k hk => ?_⟩⟩
  · rcases fnd_cons hk with ⟨rfl, rfl⟩ | ⟨hn, hk⟩
    · exact ⟨v, upd_same _ _ _, hr⟩
    · rcases mvObs_get hk with ⟨_, rfl⟩ | ⟨_, o', h1, rfl⟩
      · trivial
      · have hs := (hC.sat k o' h1).ext hx
        cases o' with
        | box t l => obtain ⟨b, cs, e, hB, hl, hh⟩ := hs; exact ⟨b, cs, e, hB, hl.mv hi, hh⟩
        | _ => exact hs
  · rcases fnd_cons h1 with ⟨rfl, rfl⟩ | ⟨hn1, h1⟩
    · rcases fnd_cons h2 with ⟨rfl, rfl⟩ | ⟨hn2, h2⟩
      · exact absurd rfl hne'
      · rw [fnx] at hf
        rcases mvObs_get h2 with ⟨_, rfl⟩ | ⟨q, o', h3, rfl⟩
        · intro e; cases e
        · rw [foot_mv, ol _ _ hn2]
          exact hC.apart i k _ o' b ho h3 (Ne.symm q) rfl hf
    · rcases mvObs_get h1 with ⟨_, rfl⟩ | ⟨q, o', h3, rfl⟩
      · cases hf
      · rw [foot_mv, ol _ _ hn1] at hf
        have hmu' : o'.mut = true := by cases o' <;> exact hmu
        rcases fnd_cons h2 with ⟨rfl, rfl⟩ | ⟨hn2, h2⟩
        · rw [fnx]
          exact hC.apart j i o' _ b h3 ho q hmu' hf
        · rcases mvObs_get h2 with ⟨_, rfl⟩ | ⟨q2, o2', h4, rfl⟩
          · intro e; cases e
          · rw [foot_mv, ol _ _ hn2]
            exact hC.apart j k o' o2' b h3 h4 hne' hmu' hf
  · rw [upd_ne v (by omega)]; exact hC.new k (by omega)
def mvsK : List Nat → Obs → Nat → (Obs → Nat → Prop) → Prop
  | [], obs, n, K => K obs n
  | i :: r, obs, n, K => fndK obs i fun o => match o with
    | .row t s m g => mvK i n obs fun obs' => mvsK r ((n, .row t s m g) :: obs') (n + 1) K
    | _ => False
theorem mvsK_spec {B : Nat} {w : World} : ∀ {l : List Nat} {ρ : Rho} {obs : Obs} {n : Nat} {K : Obs → Nat → Prop}, Cls B ρ obs n w → mvsK l obs n K → ∃ ρ' obs' n', Ext ρ ρ' ∧ Cls B ρ' obs' n' w ∧ K obs' n'
  | [], ρ, obs, n, K, hC, h => ⟨ρ, obs, n, fun _ _ q => q, hC, h⟩
  | i :: r, ρ, obs, n, K, hC, h => by
    obtain ⟨o, ho, h⟩ := fndK_spec h
    cases o with
    | row t s m g =>
      obtain ⟨ρ1, hx1, hC1⟩ := hC.mv i ho
      obtain ⟨ρ2, obs2, n2, hx2, hC2, hK⟩ := mvsK_spec (l := r) hC1 (mvK_eq (K := fun obs' => mvsK r ((n, .row t s m g) :: obs') (n + 1) K) h)
      exact ⟨ρ2, obs2, n2, fun i y q => hx2 _ _ (hx1 _ _ q), hC2, hK⟩
    | _ => exact h.elim
/-- the statement: the iterator in place -/
theorem NRange.inl {P : Program} {T : TT} (hT : TTok P T) (hm : P.follows .mixedOrders = true) {g : FuncId} {gfn : Func} {c : Code} (hf : P.funcs[g]? = some gfn) (hb : gfn.body = some c) {gsz : Nat} (hs : gfn.ntmps = gsz) (hB : hasBody P g = true)
    {sz : Nat} {fo : Operand} {ps : Array Tmp} {assign body : Code} {env : Env} {obs : Obs} {nx : Nat} {K : Kon} (sl ml : List Nat)
    (h0 : evK env fo fun v => match v with
      | .one (.clo g' caps) => NIs g' g (keepK env sl fun env0 => capE [.one (.ref nx)] caps fun args => match Nat.ble args.length gsz with
        | true => ∀ L : Lc, L = ⟨sz, ps.toList, assign, body⟩ → mvsK ml ((nx, .lp L env0 .ready) :: obs) (nx + 1) fun obs0 nx0 => vc P T gsz (nx + 1) c (argEnv 0 args) obs0 nx0 (fnK T gfn.results.toList fun _ obs1 nx1 => endK nx env K obs1 nx1)
        | false => False)
      | _ => False) : NRange P sz fo ps assign body env obs nx K := by
  refine ⟨fun B s ρ a w n hE hC hW => ?_⟩
  obtain ⟨v, hv, h⟩ := evK_spec hE h0
  clear h0
  split at h
  rotate_left
  · exact h.elim
  rename_i g' caps
  obtain ⟨rfl, h⟩ := h
  obtain ⟨cs, hcs, hg⟩ := hv
  obtain ⟨env0, hle, h⟩ := keepE_spec h
  have hE0 : EnvR sz ρ env0 { tmps := a.tmps, defers := [] } := ⟨hE.size, fun t v ht => by
    obtain ⟨u, hu, hl⟩ := hle.get t v ht
    obtain ⟨x, e, hx⟩ := hE.env t u hu
    have := hl.is_ hx
    rw [renS_nil] at this
    exact ⟨x, e, this⟩⟩
  refine wpIn_rangeFunc ?_
  intro fn hfn
  have hro : Fence.wide.round = none := rfl
  rw [hro]
  obtain ⟨W1, hW1⟩ : ∃ W1, (w.alloc (.deferred (some []))).alloc (.loop { state := .ready, pending := none, fn := fn, tmps := a.tmps, params := ps, assign := assign, body := body, defers := w.heap.size }) = W1 := ⟨_, rfl⟩
  have hsz1 : W1.heap.size = w.heap.size + 2 := by rw [← hW1]; simp
  have hL1 : W1.heap[w.heap.size + 1]? = some (.loop { state := .ready, pending := none, fn := fn, tmps := a.tmps, params := ps, assign := assign, body := body, defers := w.heap.size }) := by
    rw [← hW1]
    have := World.alloc_heap_new (w.alloc (.deferred (some []))) (.loop { state := .ready, pending := none, fn := fn, tmps := a.tmps, params := ps, assign := assign, body := body, defers := w.heap.size })
    rwa [World.size_alloc] at this
  have hK1 : W1.heap[w.heap.size]? = some (.deferred (some [])) := by
    rw [← hW1]; exact (Below.heap_alloc _ _ _ (by simp)).trans (World.alloc_heap_new w _)
  have hb1 : Below w.heap.size w W1 := by
    rw [← hW1]; exact (((Below.refl _ w).alloc (Nat.le_refl _) _).alloc (by simp) _)
  have hx1 : Ext ρ (upd ρ nx (.func (.yield (w.heap.size + 1)) #[] #[])) := ext_upd (hC.new nx (Nat.le_refl _))
  have hone : Svs (upd ρ nx (.func (.yield (w.heap.size + 1)) #[] #[])) [.one (.ref nx)] [.func (.yield (w.heap.size + 1)) #[] #[]] := ⟨_, [], rfl, ⟨upd_same _ _ _, rfl⟩, rfl⟩
  have hcs1 : CapsAre (upd ρ nx (.func (.yield (w.heap.size + 1)) #[] #[])) caps cs := hcs.ext hx1
  obtain ⟨args, h, hsv⟩ := capE_spec hone hcs1 h
  cases hlen : Nat.ble args.length gsz <;> rw [hlen] at h
  · exact h.elim
  have hC1 := hC.more (v := .func (.yield (w.heap.size + 1)) #[] #[]) (o := .lp ⟨sz, ps.toList, assign, body⟩ env0 .ready) hb1 ⟨w.heap.size + 1, fn, a.tmps, w.heap.size, upd_same _ _ _, by have := hC.le; omega, by simpa [Lst.state, Lst.pend] using hL1, hE0.ext hx1⟩
    (fun b hf => by simp only [foot, upd_same] at hf; injection hf with hf; omega)
  have h1 := h _ rfl
  obtain ⟨ρ2, obs2, n2, hx2, hC2, h2⟩ := mvsK_spec hC1 h1
  have hcall := fn_sound_pin (xs := #[.func (.yield (w.heap.size + 1)) #[] #[]] ++ cs.toArray) hT hm hf hb hs hlen h2 hC2 (by simpa using hsv.ext hx2)
  refine ⟨w.heap.size + 1, [{ target := .collected w.heap.size, args := #[] }], W1, { target := .fn (.func g') cs.toArray, args := #[.func (.yield (w.heap.size + 1)) #[] #[]] }, W1, g', #[.func (.yield (w.heap.size + 1)) #[] #[]] ++ cs.toArray, W1, ?_, ?_, fun _ _ => trivial, ?_, fun q => (by cases q), ?_⟩
  · rw [← hW1]; exact run_enterLoop_outer _ _ _ _ _
  · simp only [resolve, hg]
    simp [go_sem]
  · simp [invoke, go_sem, run_enter hB]
  refine callsIn_wide.2 (hcall.mono ?_)
  rintro e w' ⟨ρ', v, obs', nx', x, hR, rfl, _, hC', hb', hx3, ho'⟩
  have hx' : Ext (upd ρ nx (.func (.yield (w.heap.size + 1)) #[] #[])) ρ' := fun i y hi => by
    by_cases q : i < nx + 1
    · exact hx3 i y q (hx2 _ _ hi)
    · rw [upd_ne _ (by omega), hC.new i (by omega)] at hi; cases hi
  obtain ⟨L2, e2, st, hol, hR⟩ := lpK_spec hR
  have hl2 : ρ' nx = some (.func (.yield (w.heap.size + 1)) #[] #[]) := hx' _ _ (upd_same _ _ _)
  obtain ⟨fn2, tmps2, D2, hBl, hh2, _⟩ := hC'.lpset hol hl2
  have hnb : st.state ≠ .busy := by
    intro q
    cases st with
    | ready => cases q
    | busy => exact hR
    | done c => cases q
  refine ⟨st.pend, _, run_endLoop hh2 hnb, ?_⟩
  have hf2 : foot ρ' nx (.lp L2 e2 st) = some (w.heap.size + 1) := by simp [foot, hl2]
  have hC4 := hC'.kill (w' := w'.putObj (w.heap.size + 1) (.loop { state := .exhausted, pending := st.pend, fn := fn2, tmps := tmps2, params := L2.ps.toArray, assign := L2.assign, body := L2.body, defers := D2 })) hol rfl hf2 World.putObj_size (fun k hk => World.putObj_heap_other hk)
  have hB1 : B ≤ w.heap.size := hC.le
  have hW4 : Wy B s ρ' ({ target := .collected w.heap.size, args := #[] } :: a.defers) (w'.putObj (w.heap.size + 1) (.loop { state := .exhausted, pending := st.pend, fn := fn2, tmps := tmps2, params := L2.ps.toArray, assign := L2.assign, body := L2.body, defers := D2 })) := by
    have o1 : Oth W1 (w'.putObj (w.heap.size + 1) (.loop { state := .exhausted, pending := st.pend, fn := fn2, tmps := tmps2, params := L2.ps.toArray, assign := L2.assign, body := L2.body, defers := D2 })) := ho'.trans (put_oth hh2 _)
    have o2 := (oth_of hb1).trans o1
    refine ⟨((hW.b.trans (hb1.mono hB1)).trans hb').trans (put_below (by omega) _), hW.o.trans o2, fun i y hi hy => hx' _ _ (hx1 _ _ (hW.e i y hi hy)), ?_⟩
    obtain ⟨Ds, hd, hn, hD⟩ := hW.m
    refine ⟨w.heap.size :: Ds, by rw [hd]; rfl, List.nodup_cons.2 ⟨fun q => ?_, hn⟩, fun D q => ?_⟩
    · have := (Array.getElem?_eq_some_iff.1 (hD _ q).2.2).1; omega
    · rcases List.mem_cons.1 q with rfl | q
      · exact ⟨hB1, hW.b.size, o1 _ _ hK1⟩
      · exact ⟨(hD _ q).1, (hD _ q).2.1, o2 _ _ (hD _ q).2.2⟩
  have hE4 : EnvR sz ρ' env { a with defers := [{ target := .collected w.heap.size, args := #[] }] ++ a.defers } := ⟨hE.size, ((hE.ext hx1).ext hx').env⟩
  split at hR
  · exact ⟨ρ', env, _, nx', hR, hE4, hC4, hW4⟩
  · exact wpIn_exit ⟨ρ', env, _, nx', hR, hE4, hC4, hW4⟩
  · exact wpIn_ret ⟨ρ', env, _, nx', hR, hE4, hC4, hW4⟩
  · exact hR.elim

end Go.Proofs.Ytbaafjimlbodeaa.V

/- What the functions on calendars answer. -/
namespace Go.Proofs.Ytbaafjimlbodeaa
open Go Go.RowKit V
set_option maxRecDepth 100000
set_option linter.unusedVariables false
theorem _root_.Go.Proofs.Ytbaafjimlbodeaa.V.NBit.one {x : Int} {K : Int → Prop} (h0 : 0 ≤ x) (h1 : x ≤ 9223372036854775807) (hK : ∀ z, z = x % 2 → K z) : NBit .and .i64 x 1 K := by
  refine ⟨fun z hz => hK z ?_⟩
  have := hz default default
  rw [intBits_and, Sem.run_pure] at this
  injection this with this _
  injection this with _ this
  rw [← this]
  unfold bits
  simp only [BitVec.toNat_and, BitVec.toNat_ofInt, show IntKind.i64.bits = 64 from rfl]
  have e1 : ((1 : Int) % ((2 ^ 64 : Nat) : Int)).toNat = 1 := by decide
  have e2 : (x % ((2 ^ 64 : Nat) : Int)).toNat = x.toNat := by rw [Int.emod_eq_of_lt h0 (by simp; omega)]
  rw [e1, e2, Nat.and_one_is_mod]
  rw [IntWalk.i64_in _ ⟨by omega, by omega⟩]; omega
theorem _root_.Go.Proofs.Ytbaafjimlbodeaa.V.NShr.u64 {x y : Int} {K : Int → Prop} (n : Nat) (hy : y = n) (hn : n ≤ 64) (h1 : 0 ≤ x) (hK : ∀ z, z = x / 2 ^ n → 0 ≤ z → z ≤ x → K z) : NShr .u64 x y K := by
  subst hy
  have p : (0 : Int) ≤ 2 ^ n := Int.le_of_lt (Int.pow_pos (by omega))
  refine ⟨by omega, ?_⟩
  rw [Int.toNat_natCast, show IntKind.u64.bits = 64 from rfl, Nat.min_eq_left hn, Int.fdiv_eq_ediv_of_nonneg _ p]
  exact hK _ rfl (Int.ediv_nonneg h1 p) (Int.ediv_le_self _ h1)
theorem v_cisnan (x : Int) : V.Fn Try.prog 51 [] [.one (.val (.int .i64 x))] (.bool false) := by
  refine V.Fn.mk_ V.Tok V.mixed Try.func51 rfl Try.ntmps51 (by kernel_rfl) rfl rfl ?_
  repeat' ((conv => whnf); first | refine V.NCond.mk ?_ | refine V.NIf.not_ ?_ | refine V.NIf.dec_ ?_ | refine V.NIf.no (by omega) ?_ | refine V.NIf.yes (by omega) ?_ | refine V.NIf.mk (fun _ => ?_) (fun _ => ?_) | refine V.NWrap.ok (by omega) (by omega) ?_ | refine V.NWrap.u64 (by omega) (by omega) ?_ | refine V.NLt.mk (by omega) ?_ | refine V.NBoth.mk ?_ ?_ | refine V.NTF.yes (by omega) ?_ | refine V.NTF.no (by omega) ?_ | refine V.NTF.dec ?_ | refine V.NDraw.q (by exact rfl) (by kernel_rfl) ?_ | refine V.NApp.one (by first | omega | (simp; omega)) (by first | omega | (simp; omega)) ?_ | (refine V.NDraw.any (by kernel_rfl) ?_) | fail)
  exact ⟨_, rfl, by simp⟩
end Go.Proofs.Ytbaafjimlbodeaa

/- What Balance and Trial answer. -/
namespace Go.Proofs.Ytbaafjimlbodeaa
open Go Go.Sort Go.RowKit V
set_option maxRecDepth 100000
set_option linter.unusedVariables false
set_option linter.unusedSimpArgs false
set_option maxHeartbeats 4000000
namespace Bk
def lbk (b : List Po) (t : Po) : Nat := (b.takeWhile fun p => lx p t).length
theorem lbk_is {t : Po} : ∀ {b : List Po} {i : Nat}, i ≤ b.length → (∀ k, k < i → lx (b.getD k default) t = true) → (i < b.length → lx (b.getD i default) t = false) → lbk b t = i
  | [], i, hi, _, _ => by simp at hi; subst hi; rfl
  | p :: r, 0, _, _, h2 => by
    have := h2 (by simp)
    unfold lbk
    rw [List.takeWhile_cons_of_neg (by simpa using this)]
    rfl
  | p :: r, i + 1, hi, h1, h2 => by
    have e := h1 0 (by omega)
    have q := lbk_is (b := r) (i := i) (by simpa using hi) (fun k hk => by have := h1 (k + 1) (by omega); simpa using this) (fun h => by have := h2 (by simpa using h); simpa using this)
    unfold lbk at *
    rw [List.takeWhile_cons_of_pos (by simpa using e), List.length_cons, q]
def hit (b : List Po) (t : Po) : Bool := b.any fun p => decide (p.ac = t.ac ∧ p.ut = t.ut)
theorem lx_irr (p : Po) : lx p p = false := by unfold lx; simp
theorem hit_yes {b : List Po} {t : Po} {i : Nat} (h : i < b.length) (h1 : (b.getD i default).ac = t.ac ∧ (b.getD i default).ut = t.ut) : hit b t = true := List.any_eq_true.2 ⟨_, getD_mem h, by simpa using h1⟩
theorem hit_no {b : List Po} {t : Po} {i : Nat} (s : b.Pairwise fun p q => lx p q = true) (h1 : ∀ k, k < i → lx (b.getD k default) t = true) (h2 : ∀ k, i ≤ k → k < b.length → lx (b.getD k default) t = false) (h3 : i < b.length → ¬ ((b.getD i default).ac = t.ac ∧ (b.getD i default).ut = t.ut)) : hit b t = false := by
  refine Bool.eq_false_iff.2 fun z => ?_
  obtain ⟨p, hp, e⟩ := List.any_eq_true.1 z
  obtain ⟨k, hk, rfl⟩ := List.getElem_of_mem hp
  rw [decide_eq_true_eq, ← getD_at hk] at e
  by_cases q : k < i
  · have := h1 k q
    unfold lx at this
    rw [decide_eq_true_eq] at this
    omega
  · by_cases q2 : k = i
    · subst q2; exact h3 hk e
    · have a := List.pairwise_iff_getElem.1 s i k (by omega) hk (by omega)
      have c := h2 i (Nat.le_refl _) (by omega)
      rw [← getD_at (show i < b.length by omega), ← getD_at hk] at a
      unfold lx at a c
      rw [decide_eq_true_eq] at a
      rw [decide_eq_false_iff_not] at c
      omega
end Bk
theorem v_bsearchP (b : List Po) (t : Po) (hn : b.length ≤ 1000) (hs : b.Pairwise fun p q => Bk.lx p q = true) : V.Fn Try.prog 27 [.arr 3 b.length (ga encP b)] [.one (.ref 0), .agg [.val (.int .i64 t.ac), .val (.int .i64 t.ut), .val (.int .i64 t.am)], .one (.clo 28 [])] (.tuple #[.int .i64 (Bk.lbk b t), .bool (Bk.hit b t)]) := by
  refine V.Fn.mk_ V.Tok V.mixed Try.func27 rfl Try.ntmps27 (by kernel_rfl) rfl rfl ?_
  repeat' ((conv => whnf); first | refine V.NCond.mk ?_ | refine V.NIf.not_ ?_ | refine V.NIf.dec_ ?_ | refine V.NIf.no (by omega) ?_ | refine V.NIf.yes (by omega) ?_ | refine V.NIf.mk (fun _ => ?_) (fun _ => ?_) | refine V.NWrap.ok (by omega) (by omega) ?_ | refine V.NWrap.u64 (by omega) (by omega) ?_ | refine V.NLt.mk (by omega) ?_ | refine V.NBoth.mk ?_ ?_ | refine V.NTF.yes (by omega) ?_ | refine V.NTF.no (by omega) ?_ | refine V.NTF.dec ?_ | refine V.NDraw.q (by exact rfl) (by kernel_rfl) ?_ | refine V.NApp.one (by first | omega | (simp; omega)) (by first | omega | (simp; omega)) ?_ | (refine V.NDraw.any (by kernel_rfl) ?_) | fail)
  refine V.NLoop.auto (fun (s : Nat × Nat) => [(9, .one (.val (.int .i64 s.1))), (10, .one (.val (.int .i64 s.2)))]) (fun (s : Nat × Nat) => []) [] [] (fun (s : Nat × Nat) => s.2 - s.1) (fun (s : Nat × Nat) => s.1 ≤ s.2 ∧ s.2 ≤ b.length ∧ (∀ k, k < s.1 → Bk.lx (b.getD k default) t = true) ∧ (∀ k, s.2 ≤ k → k < b.length → Bk.lx (b.getD k default) t = false)) (0, b.length) ⟨Nat.zero_le _, Nat.le_refl _, fun k h => absurd h (Nat.not_lt_zero _), fun k h1 h2 => absurd h2 (by dsimp only at h1; omega)⟩ (by repeat' (first | exact rfl | exact Iff.rfl | exact trivial | exact (fun _ _ => rfl) | exact (fun _ h => absurd h (Nat.not_lt_zero _)) | refine ⟨?_, ?_⟩ | exact Iff.rfl | exact congrArg (fun z => V.SV.one (V.At.val (Value.int .i64 z))) (by omega))) (by repeat' (first | exact rfl | exact Iff.rfl | exact trivial | exact (fun _ _ => rfl) | exact (fun _ h => absurd h (Nat.not_lt_zero _)) | refine ⟨?_, ?_⟩ | exact Iff.rfl | exact congrArg (fun z => V.SV.one (V.At.val (Value.int .i64 z))) (by omega))) (fun _ => ⟨rfl, rfl⟩) ?_; (conv => whnf); refine ⟨⟨rfl, rfl⟩, ?_⟩
  rintro s ⟨h1, h2, h3, h4⟩
  generalize s.1 = i at *
  generalize s.2 = j at *
  have c1 := v_order (b.getD ((i + j) / 2) default) t
  have c2 := v_order (b.getD i default) t
  have o1 := order_lt (b.getD ((i + j) / 2) default) t
  have o2 := order_eq (b.getD i default) t
  have o3 := order_eq (b.getD ((i + j) / 2) default) t
  generalize orI (cmpI (b.getD ((i + j) / 2) default).ac t.ac) (cmpI (b.getD ((i + j) / 2) default).ut t.ut) = x1 at *
  generalize orI (cmpI (b.getD i default).ac t.ac) (cmpI (b.getD i default).ut t.ut) = x2 at *
  have tr : ∀ p q : Nat, p < q → q < b.length → Bk.lx (b.getD p default) (b.getD q default) = true := fun p q h h' => by
    have := List.pairwise_iff_getElem.1 hs p q (by omega) h' h
    rwa [← getD_at (by omega), ← getD_at h'] at this
  repeat' ((conv => whnf); first | refine V.NCond.mk ?_ | refine V.NIf.not_ ?_ | refine V.NIf.dec_ ?_ | refine V.NIf.no (by omega) ?_ | refine V.NIf.yes (by omega) ?_ | refine V.NIf.mk (fun _ => ?_) (fun _ => ?_) | refine V.NWrap.ok (by omega) (by omega) ?_ | refine V.NWrap.u64 (by omega) (by omega) ?_ | refine V.NLt.mk (by omega) ?_ | refine V.NBoth.mk ?_ ?_ | refine V.NTF.yes (by omega) ?_ | refine V.NTF.no (by omega) ?_ | refine V.NTF.dec ?_ | refine V.NDraw.q (by exact rfl) (by kernel_rfl) ?_ | refine V.NApp.one (by first | omega | (simp; omega)) (by first | omega | (simp; omega)) ?_ | (refine NShr.u64 1 rfl (by omega) (by omega) ?_; intro z hz hz0 hz1) | (refine NIdx.mk ⟨(i + j) / 2, by omega, by omega, ?_⟩) | (refine NIdx.mk ⟨i, rfl, by omega, ?_⟩) | (first | refine V.Fn.k0 (c1) rfl ?_ | refine V.Fn.q0 (c1) rfl ?_ | refine V.Fn.a0 (c1) rfl ?_) | (first | refine V.Fn.k0 (c2) rfl ?_ | refine V.Fn.q0 (c2) rfl ?_ | refine V.Fn.a0 (c2) rfl ?_) | (refine V.NDraw.any (by kernel_rfl) ?_) | fail)
  all_goals (conv => whnf)
  · have e : Bk.lx (b.getD ((i + j) / 2) default) t = true := by rw [← o1]; exact decide_eq_true (by assumption)
    refine V.NBack.at_ ((i + j) / 2 + 1, j) [] ⟨by dsimp only; omega, h2, fun k hk => ?_, h4⟩ (by dsimp only; omega) (by repeat' (first | exact rfl | exact Iff.rfl | exact trivial | exact (fun _ _ => rfl) | exact (fun _ h => absurd h (Nat.not_lt_zero _)) | refine ⟨?_, ?_⟩ | exact Iff.rfl | exact congrArg (fun z => V.SV.one (V.At.val (Value.int .i64 z))) (by omega))) rfl (by repeat' (first | exact rfl | exact Iff.rfl | exact trivial | exact (fun _ _ => rfl) | exact (fun _ h => absurd h (Nat.not_lt_zero _)) | refine ⟨?_, ?_⟩ | exact Iff.rfl | exact congrArg (fun z => V.SV.one (V.At.val (Value.int .i64 z))) (by omega))) (by repeat' (first | exact rfl | exact Iff.rfl | exact trivial | exact (fun _ _ => rfl) | exact (fun _ h => absurd h (Nat.not_lt_zero _)) | refine ⟨?_, ?_⟩ | exact Iff.rfl | exact congrArg (fun z => V.SV.one (V.At.val (Value.int .i64 z))) (by omega))) (by repeat' (first | exact rfl | exact Iff.rfl | exact trivial | exact (fun _ _ => rfl) | exact (fun _ h => absurd h (Nat.not_lt_zero _)) | refine ⟨?_, ?_⟩ | exact Iff.rfl | exact congrArg (fun z => V.SV.one (V.At.val (Value.int .i64 z))) (by omega)))
    by_cases q : k = (i + j) / 2
    · rw [q]; exact e
    · exact Bk.lx_trans (tr k ((i + j) / 2) (by dsimp only at hk; omega) (by omega)) e
  · have e : Bk.lx (b.getD ((i + j) / 2) default) t = false := by rw [← o1]; exact decide_eq_false (by assumption)
    refine V.NBack.at_ (i, (i + j) / 2) [] ⟨by dsimp only; omega, by dsimp only; omega, h3, fun k h5 h6 => ?_⟩ (by dsimp only; omega) (by repeat' (first | exact rfl | exact Iff.rfl | exact trivial | exact (fun _ _ => rfl) | exact (fun _ h => absurd h (Nat.not_lt_zero _)) | refine ⟨?_, ?_⟩ | exact Iff.rfl | exact congrArg (fun z => V.SV.one (V.At.val (Value.int .i64 z))) (by omega))) rfl (by repeat' (first | exact rfl | exact Iff.rfl | exact trivial | exact (fun _ _ => rfl) | exact (fun _ h => absurd h (Nat.not_lt_zero _)) | refine ⟨?_, ?_⟩ | exact Iff.rfl | exact congrArg (fun z => V.SV.one (V.At.val (Value.int .i64 z))) (by omega))) (by repeat' (first | exact rfl | exact Iff.rfl | exact trivial | exact (fun _ _ => rfl) | exact (fun _ h => absurd h (Nat.not_lt_zero _)) | refine ⟨?_, ?_⟩ | exact Iff.rfl | exact congrArg (fun z => V.SV.one (V.At.val (Value.int .i64 z))) (by omega))) (by repeat' (first | exact rfl | exact Iff.rfl | exact trivial | exact (fun _ _ => rfl) | exact (fun _ h => absurd h (Nat.not_lt_zero _)) | refine ⟨?_, ?_⟩ | exact Iff.rfl | exact congrArg (fun z => V.SV.one (V.At.val (Value.int .i64 z))) (by omega)))
    by_cases q : k = (i + j) / 2
    · rw [q]; exact e
    · refine Bool.eq_false_iff.2 fun z => ?_
      rw [Bk.lx_trans (tr ((i + j) / 2) k (by dsimp only at h5; omega) h6) z] at e
      cases e
  · obtain rfl : i = j := by omega
    rw [show (i + i) / 2 = i by omega] at o3
    have e1 := Bk.lbk_is h2 h3 (fun h => h4 i (Nat.le_refl _) h)
    rw [e1]
    have e2 : x1 = 0 → Bk.hit b t = true := fun h => Bk.hit_yes (i := i) (by omega) (o3.1 h)
    have e3 : ¬ x1 = 0 → Bk.hit b t = false := fun h => Bk.hit_no hs h3 h4 (fun _ z => h (o3.2 z))
    refine ⟨rfl, ⟨_, rfl, ?_⟩, trivial⟩
    by_cases q : x1 = 0
    · rw [e2 q]; simp [q]
    · rw [e3 q]; simp [q]
  · obtain rfl : i = j := by omega
    have e1 := Bk.lbk_is h2 h3 (fun h => h4 i (Nat.le_refl _) h)
    rw [e1]
    exact ⟨rfl, congrArg Value.bool (Bk.hit_no hs h3 h4 (fun h => absurd h (by omega))).symm, trivial⟩
namespace Bk
def Kn (a u : Int) : Prop := (0 ≤ a ∧ a ≤ 100) ∧ (0 ≤ u ∧ u ≤ 20)
instance (a u : Int) : Decidable (Kn a u) := by unfold Kn; exact inferInstance
def bE (b : List Po) (a u : Int) : Int := if lines b ≠ 0 then lines b else if Kn a u then 0 else 3
def bV (b : List Po) (a u : Int) : Int := if bE b a u = 0 then amAt b a u else 0
theorem hit_at {b : List Po} {t : Po} (s : b.Pairwise fun p q => lx p q = true) : (hit b t = true → lbk b t < b.length ∧ (b.getD (lbk b t) default).am = amAt b t.ac t.ut) ∧ (hit b t = false → amAt b t.ac t.ut = 0) := by
  refine ⟨fun h => ?_, fun h => ?_⟩
  · obtain ⟨p, hp, e⟩ := List.any_eq_true.1 h
    obtain ⟨k, hk, rfl⟩ := List.getElem_of_mem hp
    rw [decide_eq_true_eq] at e
    have pre : ∀ m, m < k → lx (b.getD m default) t = true := fun m hm => by
      have := List.pairwise_iff_getElem.1 s m k (by omega) hk hm
      rw [← getD_at (show m < b.length by omega)] at this
      unfold lx at *
      rw [decide_eq_true_eq] at *
      omega
    have at0 : lx (b.getD k default) t = false := by
      rw [getD_at hk]
      unfold lx
      rw [decide_eq_false_iff_not]
      omega
    have l := lbk_is (t := t) (b := b) (i := k) (by omega) pre (fun _ => at0)
    rw [l]
    refine ⟨hk, ?_⟩
    have ix := ixf_get (p := at? t.ac t.ut) hk (fun d hd => by
      obtain ⟨m, hm, rfl⟩ := List.getElem_of_mem hd
      rw [List.length_take] at hm
      rw [List.getElem_take, ← getD_at (show m < b.length by omega)]
      have := pre m (by omega)
      unfold lx at this
      rw [decide_eq_true_eq] at this
      exact decide_eq_false (by omega)) (decide_eq_true (by rw [getD_at hk]; exact e))
    unfold amAt
    rw [ix, if_pos (by omega), Int.toNat_natCast]
  · unfold amAt
    rw [ixf_no fun d hd => ?_, if_neg (by decide)]
    have := List.any_eq_false.1 h d hd
    rw [decide_eq_true_eq] at this
    exact decide_eq_false this
end Bk
theorem v_bkBalance (b : List Po) (a u : Int) (hb : b.length ≤ 9223372036854775807) : V.Fn Try.prog 11 [.arr 3 b.length (ga encP b)] [.one (.ref 0), .one (.val (.int .i64 a)), .one (.val (.int .i64 u))] (.tuple #[.int .i64 (Bk.bV b a u), .int .i64 (Bk.bE b a u)]) := by
  have c1 := v_bkLines b hb
  have c2 := v_bkKnown a u
  have c3 := fun (h : Bk.Lines b) => v_bsearchP b ⟨a, u, 0⟩ (Nat.le_trans h.le (by decide)) h.s
  have hh := fun (h : Bk.Lines b) => Bk.hit_at (t := ⟨a, u, 0⟩) h.s
  have lo := @Bk.lines_0 b
  have e1 : Bk.lines b ≠ 0 → Bk.bE b a u = Bk.lines b := fun h => if_pos h
  have e2 : Bk.lines b = 0 → ¬ Bk.Kn a u → Bk.bE b a u = 3 := fun h h2 => (if_neg (fun z => z h)).trans (if_neg h2)
  have e3 : Bk.lines b = 0 → Bk.Kn a u → Bk.bE b a u = 0 := fun h h2 => (if_neg (fun z => z h)).trans (if_pos h2)
  have v0 : Bk.bE b a u ≠ 0 → Bk.bV b a u = 0 := fun h => if_neg h
  have v1 : Bk.bE b a u = 0 → Bk.bV b a u = Bk.amAt b a u := fun h => if_pos h
  generalize Bk.lines b = L at *
  generalize Bk.lbk b ⟨a, u, 0⟩ = ix at *
  generalize Bk.hit b ⟨a, u, 0⟩ = ht at *
  refine V.Fn.mk_ V.Tok V.mixed Try.func11 rfl Try.ntmps11 (by kernel_rfl) rfl rfl ?_
  repeat' ((conv => whnf); first | refine V.NCond.mk ?_ | refine V.NIf.not_ ?_ | refine V.NIf.dec_ ?_ | refine V.NIf.no (by omega) ?_ | refine V.NIf.yes (by omega) ?_ | refine V.NIf.mk (fun _ => ?_) (fun _ => ?_) | refine V.NWrap.ok (by omega) (by omega) ?_ | refine V.NWrap.u64 (by omega) (by omega) ?_ | refine V.NLt.mk (by omega) ?_ | refine V.NBoth.mk ?_ ?_ | refine V.NTF.yes (by omega) ?_ | refine V.NTF.no (by omega) ?_ | refine V.NTF.dec ?_ | refine V.NDraw.q (by exact rfl) (by kernel_rfl) ?_ | refine V.NApp.one (by first | omega | (simp; omega)) (by first | omega | (simp; omega)) ?_ | (refine NIdx.mk ⟨ix, rfl, ((hh (lo (by assumption)).1).1 (by assumption)).1, ?_⟩) | (refine V.NLt.mk ((hh (lo (by assumption)).1).1 (by assumption)).1 ?_) | ((first | refine V.Fn.k (c1) [0] rfl ?_ ?_ | refine V.Fn.q (c1) [0] rfl ?_ ?_ | refine V.Fn.a (c1) [0] rfl ?_ ?_); · ((repeat' (first | exact rfl | exact Iff.rfl | exact trivial | exact (fun _ _ => rfl) | exact (fun _ h => absurd h (Nat.not_lt_zero _)) | refine ⟨?_, ?_⟩ | exact Iff.rfl | exact congrArg (fun z => V.SV.one (V.At.val (Value.int .i64 z))) (by omega))); done)) | (first | refine V.Fn.k0 (c2) rfl ?_ | refine V.Fn.q0 (c2) rfl ?_ | refine V.Fn.a0 (c2) rfl ?_) | ((first | refine V.Fn.k (c3 (lo (by assumption)).1) [0] rfl ?_ ?_ | refine V.Fn.q (c3 (lo (by assumption)).1) [0] rfl ?_ ?_ | refine V.Fn.a (c3 (lo (by assumption)).1) [0] rfl ?_ ?_); · ((repeat' (first | exact rfl | exact Iff.rfl | exact trivial | exact (fun _ _ => rfl) | exact (fun _ h => absurd h (Nat.not_lt_zero _)) | refine ⟨?_, ?_⟩ | exact Iff.rfl | exact congrArg (fun z => V.SV.one (V.At.val (Value.int .i64 z))) (by omega))); done)) | (refine V.NDraw.any (by kernel_rfl) ?_) | fail)
  all_goals (conv => whnf)
  · have e := e3 (by assumption) (by assumption)
    exact ⟨V.fin1 ((v1 e).trans ((hh (lo (by assumption)).1).1 (by assumption)).2.symm), congrArg (Value.int .i64) e.symm, trivial⟩
  · have e := e3 (by assumption) (by assumption)
    exact ⟨V.fin1 ((v1 e).trans ((hh (lo (by assumption)).1).2 (by simpa using ‹¬ ht = true›))), congrArg (Value.int .i64) e.symm, trivial⟩
  · have e := e2 (by assumption) (by assumption)
    exact ⟨V.fin1 (v0 (by omega)), congrArg (Value.int .i64) e.symm, trivial⟩
  · have e := e1 (by assumption)
    exact ⟨V.fin1 (v0 (by omega)), congrArg (Value.int .i64) e.symm, trivial⟩
end Go.Proofs.Ytbaafjimlbodeaa

/- What Trial answers, and the document's. -/
namespace Go.Proofs.Ytbaafjimlbodeaa
open Go Go.Sort Go.RowKit V
set_option maxRecDepth 100000
set_option linter.unusedVariables false
set_option linter.unusedSimpArgs false
set_option maxHeartbeats 4000000
namespace Bk
def mx (a : Int) : Int := if a < 0 then 0 else a
def up (b : List Po) : List Po := b.map fun p => ⟨p.ac, p.ut, mx p.am⟩
def pos (l : List Int) : List Int := l.filter fun a => decide (0 < a)
def ts (b : List Po) (u : Nat) : Int := M.sum (pos (amu b u))
theorem ws_amt {l : List Po} (hr : ∀ p ∈ l, M.Amt p.am) (k u : Nat) : (ws l k u).1 * 1152921504606846976 + (ws l k u).2 = M.sum (amu (l.take k) u) ∧ (-1152921504606846976 < (ws l k u).2 ∧ (ws l k u).2 < 1152921504606846976) ∧ -(l.length : Int) ≤ (ws l k u).1 ∧ (ws l k u).1 ≤ l.length := by
  obtain ⟨a, b, c⟩ := wst_spec (amu (l.take k) u) (fun a ha => by
    obtain ⟨p, hp, rfl⟩ := List.mem_map.1 ha
    exact hr p (List.mem_of_mem_take (List.mem_filter.1 hp).1))
  have d := amu_len (l.take k) u
  have e : (l.take k).length ≤ l.length := by rw [List.length_take]; omega
  unfold ws
  exact ⟨a, b, by omega, by omega⟩
theorem up_len (b : List Po) : (up b).length = b.length := List.length_map _
theorem up_at {b : List Po} {k : Nat} (h : k < b.length) : (up b).getD k default = ⟨(b.getD k default).ac, (b.getD k default).ut, mx (b.getD k default).am⟩ := by
  rw [getD_at (by rw [up_len]; exact h), getD_at h]
  simp [up]
theorem up_amt {b : List Po} (h : ∀ p ∈ b, Right p) : ∀ p ∈ up b, M.Amt p.am := fun p hp => by
  obtain ⟨q, hq, rfl⟩ := List.mem_map.1 hp
  have := (h q hq).2.1
  unfold M.Amt mx at *
  simp only
  split <;> omega
theorem pos_sum : ∀ l : List Int, M.sum (l.map mx) = M.sum (pos l)
  | [] => rfl
  | a :: r => by
    have i := pos_sum r
    rw [List.map_cons]
    show mx a + M.sum (r.map mx) = M.sum (pos (a :: r))
    rw [i]
    by_cases h : 0 < a
    · rw [show pos (a :: r) = a :: pos r from List.filter_cons_of_pos (decide_eq_true h), show mx a = a from if_neg (by omega)]
      rfl
    · rw [show pos (a :: r) = pos r from List.filter_cons_of_neg (by rw [decide_eq_true_eq]; exact h), show mx a = 0 by unfold mx; split <;> omega]
      omega
theorem up_amu (b : List Po) (u : Nat) : amu (up b) u = (amu b u).map mx := by
  unfold amu up
  rw [List.filter_map, List.map_map, List.map_map]
  rfl
theorem up_ts (b : List Po) (u : Nat) : M.sum (amu (up b) u) = ts b u := by rw [up_amu, pos_sum]; rfl
def tw (b : List Po) : Bool := (List.range 21).any fun u => !decide (M.Amt (ts b u))
def tE (b : List Po) : Int := if lines b ≠ 0 then lines b else if tw b = true then 8 else 0
def tV (b : List Po) : List Int := if tE b = 0 then (List.range 21).map (ts b) else []
theorem tw_yes {b : List Po} {u : Nat} (hu : u < 21) (h : ¬ M.Amt (ts b u)) : tw b = true := List.any_eq_true.2 ⟨u, List.mem_range.2 hu, by simp [h]⟩
theorem tw_no {b : List Po} (h : ∀ u, u < 21 → M.Amt (ts b u)) : tw b = false := by
  cases q : tw b
  · rfl
  · obtain ⟨k, hk, e⟩ := List.any_eq_true.1 q
    have := h k (List.mem_range.1 hk)
    simp [this] at e
def tl (b : List Po) (i : Nat) : List Int := (List.range 21).map fun q => if q < i then ts b q else 0
theorem tl_len (b : List Po) (i : Nat) : (tl b i).length = 21 := by simp [tl]
theorem tl_0 (b : List Po) (q : Nat) (h : q < 21) : ga e1 (tl b 0) q = [.int .i64 0] := by
  unfold ga
  rw [getD_at (by rw [tl_len]; exact h)]
  simp [tl, e1]
theorem tl_set {b : List Po} {i : Nat} (h : i < 21) : (tl b i).set i (ts b i) = tl b (i + 1) := by
  refine List.ext_getElem (by simp [tl]) fun q q1 q2 => ?_
  rw [List.getElem_set]
  simp only [tl, List.getElem_map, List.getElem_range]
  by_cases e : i = q
  · rw [if_pos e, if_pos (by omega), e]
  · rw [if_neg e]
    by_cases z : q < i
    · rw [if_pos z, if_pos (by omega)]
    · rw [if_neg z, if_neg (by omega)]
theorem tl_end (b : List Po) : tl b 21 = (List.range 21).map (ts b) := by
  unfold tl
  refine List.map_congr_left fun q hq => ?_
  rw [if_pos (List.mem_range.1 hq)]
end Bk
theorem v_bkTrial (b : List Po) (hb : b.length ≤ 9223372036854775807) : V.FnR Try.prog 13 [.arr 3 b.length (ga encP b)] [.one (.ref 0)] (.tup [.one (.ref 1), .one (.val (.int .i64 (Bk.tE b)))]) [.row 3 1 (Bk.tV b).length (ga e1 (Bk.tV b))] := by
  have c1 := v_bkLines b hb
  have lo := @Bk.lines_0 b
  have x1 : Bk.lines b ≠ 0 → Bk.tE b = Bk.lines b := fun h => if_pos h
  have x2 : Bk.lines b = 0 → Bk.tw b = true → Bk.tE b = 8 := fun h h2 => (if_neg (fun z => z h)).trans (if_pos h2)
  have x3 : Bk.lines b = 0 → Bk.tw b = false → Bk.tE b = 0 := fun h h2 => (if_neg (fun z => z h)).trans (if_neg (by rw [h2]; decide))
  have v0 : Bk.tE b ≠ 0 → Bk.tV b = [] := fun h => if_neg h
  have v1 : Bk.tE b = 0 → Bk.tV b = (List.range 21).map (Bk.ts b) := fun h => if_pos h
  generalize Bk.lines b = L at *
  refine V.FnR.mk_ V.Tok V.mixed Try.func13 rfl Try.ntmps13 (by kernel_rfl) rfl rfl rfl rfl ?_
  repeat' ((conv => whnf); first | refine V.NCond.mk ?_ | refine V.NIf.not_ ?_ | refine V.NIf.dec_ ?_ | refine V.NIf.no (by omega) ?_ | refine V.NIf.yes (by omega) ?_ | refine V.NIf.mk (fun _ => ?_) (fun _ => ?_) | refine V.NWrap.ok (by omega) (by omega) ?_ | refine V.NWrap.u64 (by omega) (by omega) ?_ | refine V.NLt.mk (by omega) ?_ | refine V.NBoth.mk ?_ ?_ | refine V.NTF.yes (by omega) ?_ | refine V.NTF.no (by omega) ?_ | refine V.NTF.dec ?_ | refine V.NDraw.q (by exact rfl) (by kernel_rfl) ?_ | refine V.NApp.one (by first | omega | (simp; omega)) (by first | omega | (simp; omega)) ?_ | ((first | refine V.Fn.k (c1) [0] rfl ?_ ?_ | refine V.Fn.q (c1) [0] rfl ?_ ?_ | refine V.Fn.a (c1) [0] rfl ?_ ?_); · ((repeat' (first | exact rfl | exact Iff.rfl | exact trivial | exact (fun _ _ => rfl) | exact (fun _ h => absurd h (Nat.not_lt_zero _)) | refine ⟨?_, ?_⟩ | exact Iff.rfl | exact congrArg (fun z => V.SV.one (V.At.val (Value.int .i64 z))) (by omega))); done)) | (refine V.NDraw.any (by kernel_rfl) ?_) | fail)
  all_goals (conv => whnf)
  · obtain ⟨⟨lb, hr, hs⟩, _⟩ := lo (by assumption)
    have ua := Bk.up_amt hr
    have ul := Bk.up_len b
    refine V.NLoop.auto (fun (k : Nat) => [(19, .one (.val (.int .i64 k)))]) (fun (k : Nat) => [(2, .row 52 2 21 (fun q => [.int .i64 (Bk.ws (Bk.up b) k q).1, .int .i64 (Bk.ws (Bk.up b) k q).2]))]) [] [] (fun (k : Nat) => b.length - k) (fun (k : Nat) => k ≤ b.length) 0 (Nat.zero_le _) (by repeat' (first | exact rfl | exact Iff.rfl | exact trivial | exact (fun _ _ => rfl) | exact (fun _ h => absurd h (Nat.not_lt_zero _)) | refine ⟨?_, ?_⟩ | exact Iff.rfl | exact congrArg (fun z => V.SV.one (V.At.val (Value.int .i64 z))) (by omega))) (by (conv => whnf); exact ⟨⟨rfl, rfl, rfl, fun k hk => (show List.take 2 (List.drop (k * 2) (List.replicate (21 * 2) (Value.int .i64 0))) = _ from arr2 hk)⟩, trivial⟩) (fun _ => ⟨rfl, rfl⟩) ?_; (conv => whnf); refine ⟨⟨rfl, rfl⟩, ?_⟩
    rintro k hk
    by_cases hlt : k < b.length
    · obtain ⟨⟨h1, h2⟩, h3, h4⟩ := hr _ (getD_mem hlt)
      obtain ⟨u, hu⟩ : ∃ u : Nat, (b.getD k default).ut = (u : Int) := ⟨(b.getD k default).ut.toNat, by omega⟩
      obtain ⟨-, ws, wl⟩ := Bk.ws_amt ua k u
      rw [ul] at wl
      have hx := Bk.ws_succ (l := Bk.up b) (by rw [ul]; exact hlt) u (by rw [Bk.up_at hlt]; exact hu)
      rw [show ((Bk.up b).getD k default).am = Bk.mx (b.getD k default).am by rw [Bk.up_at hlt]] at hx
      have hm2 : Bk.mx (b.getD k default).am = 0 ∨ Bk.mx (b.getD k default).am = (b.getD k default).am := by unfold Bk.mx; split <;> simp
      have lb' := lb
      unfold M.Amt at h3
      have dm := Bk.tdm ((Bk.ws (Bk.up b) k u).2 + Bk.mx (b.getD k default).am)
      have hx : ∀ q, Bk.ws (Bk.up b) (k + 1) q = Bk.put (Bk.ws (Bk.up b) k) u ((Bk.ws (Bk.up b) k u).1 + ((Bk.ws (Bk.up b) k u).2 + Bk.mx (b.getD k default).am).tdiv 1152921504606846976, ((Bk.ws (Bk.up b) k u).2 + Bk.mx (b.getD k default).am).tmod 1152921504606846976) q := fun q => hx q
      generalize Bk.ws (Bk.up b) k = W at *
      obtain ⟨A, hA⟩ : ∃ A, A = Bk.put W u ((W u).1, (W u).2 + Bk.mx (b.getD k default).am) := ⟨_, rfl⟩
      have eA : (A u).1 = (W u).1 ∧ (A u).2 = (W u).2 + Bk.mx (b.getD k default).am := by rw [hA, Bk.put_u]; exact ⟨rfl, rfl⟩
      rw [← eA.2] at dm hx
      rw [← eA.1] at hx
      have dq : -2 ≤ (A u).2.tdiv 1152921504606846976 ∧ (A u).2.tdiv 1152921504606846976 ≤ 2 := by omega
      obtain ⟨B, hB⟩ : ∃ B, B = Bk.put A u ((A u).1 + (A u).2.tdiv 1152921504606846976, (A u).2) := ⟨_, rfl⟩
      obtain ⟨C, hC⟩ : ∃ C, C = Bk.put A u ((A u).1, (A u).2.tmod 1152921504606846976) := ⟨_, rfl⟩
      obtain ⟨D, hD⟩ : ∃ D, D = Bk.put A u ((A u).1 + (A u).2.tdiv 1152921504606846976, (A u).2.tmod 1152921504606846976) := ⟨_, rfl⟩
      have eB : (B u).1 = (A u).1 + (A u).2.tdiv 1152921504606846976 ∧ (B u).2 = (A u).2 := by rw [hB, Bk.put_u]; exact ⟨rfl, rfl⟩
      have eC : (C u).1 = (A u).1 ∧ (C u).2 = (A u).2.tmod 1152921504606846976 := by rw [hC, Bk.put_u]; exact ⟨rfl, rfl⟩
      have pA := put_is W A u _ _ hA
      have pB := put_is A B u _ _ hB
      have pC := put_is A C u _ _ hC
      have pD := put_is B D u (B u).1 ((A u).2.tmod 1152921504606846976) (by rw [hD, eB.1, hB, Bk.put_2])
      have pE := put_is C D u ((A u).1 + (A u).2.tdiv 1152921504606846976) (C u).2 (by rw [hD, eC.2, hC, Bk.put_2])
      have hx : ∀ q, Bk.ws (Bk.up b) (k + 1) q = D q := fun q => by rw [hx, hD, hA, Bk.put_2]
      clear hA hB hC hD
      repeat' ((conv => whnf); first | (refine V.NDraw.each (by kernel_rfl) ?_) | (refine V.NWrap.ok (e := (W u).2 + Bk.mx (b.getD k default).am) (by omega) (by omega) ?_) | refine V.NCond.mk ?_ | refine V.NIf.not_ ?_ | refine V.NIf.dec_ ?_ | refine V.NIf.no (by omega) ?_ | refine V.NIf.yes (by omega) ?_ | refine V.NIf.mk (fun _ => ?_) (fun _ => ?_) | refine V.NWrap.ok (by omega) (by omega) ?_ | refine V.NWrap.u64 (by omega) (by omega) ?_ | refine V.NLt.mk (by omega) ?_ | refine V.NBoth.mk ?_ ?_ | refine V.NTF.yes (by omega) ?_ | refine V.NTF.no (by omega) ?_ | refine V.NTF.dec ?_ | refine V.NDraw.q (by exact rfl) (by kernel_rfl) ?_ | refine V.NApp.one (by first | omega | (simp; omega)) (by first | omega | (simp; omega)) ?_ | (refine NIdx.mk ⟨k, rfl, by omega, ?_⟩) | (refine NIdx.mk ⟨u, hu, by omega, ?_⟩) | (refine V.NCall.inl (f := 31) V.Tok V.mixed Try.func31 rfl Try.ntmps31 (by kernel_rfl) rfl ?_) | (refine NQuo.ok (by decide) (by omega) (by omega) ?_) | (refine NRem.mk (by decide) ?_) | (refine ⟨⟨fun q => [.int .i64 (A q).1, .int .i64 (A q).2], fun q hq => pA q, ?_⟩⟩) | (refine ⟨⟨fun q => [.int .i64 (B q).1, .int .i64 (B q).2], fun q hq => pB q, ?_⟩⟩) | (refine ⟨⟨fun q => [.int .i64 (C q).1, .int .i64 (C q).2], fun q hq => pC q, ?_⟩⟩) | (refine ⟨⟨fun q => [.int .i64 (D q).1, .int .i64 (D q).2], fun q hq => pD q, ?_⟩⟩) | (refine ⟨⟨fun q => [.int .i64 (D q).1, .int .i64 (D q).2], fun q hq => pE q, ?_⟩⟩) | (refine V.NDraw.any (by kernel_rfl) ?_) | fail)
      all_goals (conv => whnf)
      all_goals exact V.NBack.at_ (k + 1) [] (by omega) (by omega) (by repeat' (first | exact rfl | exact Iff.rfl | exact trivial | exact (fun _ _ => rfl) | exact (fun _ h => absurd h (Nat.not_lt_zero _)) | refine ⟨?_, ?_⟩ | exact Iff.rfl | exact congrArg (fun z => V.SV.one (V.At.val (Value.int .i64 z))) (by omega))) rfl ⟨⟨rfl, rfl, rfl, fun q _ => by show [_, _] = [_, _]; rw [hx q]⟩, trivial⟩ (by repeat' (first | exact rfl | exact Iff.rfl | exact trivial | exact (fun _ _ => rfl) | exact (fun _ h => absurd h (Nat.not_lt_zero _)) | refine ⟨?_, ?_⟩ | exact Iff.rfl | exact congrArg (fun z => V.SV.one (V.At.val (Value.int .i64 z))) (by omega))) (by repeat' (first | exact rfl | exact Iff.rfl | exact trivial | exact (fun _ _ => rfl) | exact (fun _ h => absurd h (Nat.not_lt_zero _)) | refine ⟨?_, ?_⟩ | exact Iff.rfl | exact congrArg (fun z => V.SV.one (V.At.val (Value.int .i64 z))) (by omega)))
    obtain rfl : k = b.length := by omega
    have wsp := fun u => Bk.ws_amt ua b.length u
    rw [← ul, List.take_length] at wsp
    rw [ul] at wsp
    have ws2 := fun u => (wsp u).1.trans (Bk.up_ts b u)
    generalize Bk.ws (Bk.up b) b.length = W at *
    repeat' ((conv => whnf); first | refine V.NCond.mk ?_ | refine V.NIf.not_ ?_ | refine V.NIf.dec_ ?_ | refine V.NIf.no (by omega) ?_ | refine V.NIf.yes (by omega) ?_ | refine V.NIf.mk (fun _ => ?_) (fun _ => ?_) | refine V.NWrap.ok (by omega) (by omega) ?_ | refine V.NWrap.u64 (by omega) (by omega) ?_ | refine V.NLt.mk (by omega) ?_ | refine V.NBoth.mk ?_ ?_ | refine V.NTF.yes (by omega) ?_ | refine V.NTF.no (by omega) ?_ | refine V.NTF.dec ?_ | refine V.NDraw.q (by exact rfl) (by kernel_rfl) ?_ | refine V.NApp.one (by first | omega | (simp; omega)) (by first | omega | (simp; omega)) ?_ | (refine NMake.mk ⟨21, 21, rfl, rfl, by omega, by omega, by first | omega | decide | (simp; done) | (simp; omega), ?_⟩) | (refine V.NDraw.any (by kernel_rfl) ?_) | fail)
    all_goals (conv => whnf)
    refine V.NLoop.auto (fun (i : Nat) => [(32, .one (.val (.int .i64 i))), (8, .one (.ref 3))]) (fun (i : Nat) => [(3, .row 3 1 21 (ga e1 (Bk.tl b i)))]) [] [] (fun (i : Nat) => 21 - i) (fun (i : Nat) => i ≤ 21 ∧ ∀ u, u < i → M.Amt (Bk.ts b u)) 0 ⟨Nat.zero_le _, fun u h => absurd h (Nat.not_lt_zero _)⟩ (by repeat' (first | exact rfl | exact Iff.rfl | exact trivial | exact (fun _ _ => rfl) | exact (fun _ h => absurd h (Nat.not_lt_zero _)) | refine ⟨?_, ?_⟩ | exact Iff.rfl | exact congrArg (fun z => V.SV.one (V.At.val (Value.int .i64 z))) (by omega))) (by (conv => whnf); exact ⟨⟨rfl, rfl, rfl, fun q hq => (Bk.tl_0 b q hq).symm⟩, trivial⟩) (fun _ => ⟨rfl, rfl⟩) ?_; (conv => whnf); refine ⟨⟨rfl, rfl⟩, ?_⟩
    rintro i ⟨hi, hJ⟩
    by_cases i1 : i < 21
    · obtain ⟨w1, w2, w3⟩ := wsp i
      have we := ws2 i
      have am : M.Amt (Bk.ts b i) ↔ -1152921504606846976 ≤ (W i).1 * 1152921504606846976 + (W i).2 ∧ (W i).1 * 1152921504606846976 + (W i).2 ≤ 1152921504606846976 := by rw [we]; exact Iff.rfl
      have w8 : ¬ M.Amt (Bk.ts b i) → Bk.tE b = 8 := fun h => x2 (by assumption) (Bk.tw_yes i1 h)
      have ckn := fun n => @M.chk_yes n
      have ckz := fun n (h : M.chk n = 0) => Classical.byContradiction fun (z : ¬ M.Amt n) => by rw [M.chk_no z] at h; omega
      unfold M.Amt at ckz
      have st : (Bk.tl b i).set i ((W i).1 * 1152921504606846976 + (W i).2) = Bk.tl b (i + 1) := by rw [we]; exact Bk.tl_set i1
      have tn := Bk.tl_len b i
      repeat' ((conv => whnf); first | refine V.NCond.mk ?_ | refine V.NIf.not_ ?_ | refine V.NIf.dec_ ?_ | refine V.NIf.no (by omega) ?_ | refine V.NIf.yes (by omega) ?_ | refine V.NIf.mk (fun _ => ?_) (fun _ => ?_) | refine V.NWrap.ok (by omega) (by omega) ?_ | refine V.NWrap.u64 (by omega) (by omega) ?_ | refine V.NLt.mk (by omega) ?_ | refine V.NBoth.mk ?_ ?_ | refine V.NTF.yes (by omega) ?_ | refine V.NTF.no (by omega) ?_ | refine V.NTF.dec ?_ | refine V.NDraw.q (by exact rfl) (by kernel_rfl) ?_ | refine V.NApp.one (by first | omega | (simp; omega)) (by first | omega | (simp; omega)) ?_ | (refine NIdx.mk ⟨i, rfl, by omega, ?_⟩) | (refine V.NCall.inl (f := 32) V.Tok V.mixed Try.func32 rfl Try.ntmps32 (by kernel_rfl) rfl ?_) | (first | refine V.Fn.k0 (v_check _) rfl ?_ | refine V.Fn.q0 (v_check _) rfl ?_ | refine V.Fn.a0 (v_check _) rfl ?_) | (refine NPut.is_ (en := e1) (l := Bk.tl b i) ((W i).1 * 1152921504606846976 + (W i).2) (Bk.tl b (i + 1)) st tn rfl ?_) | (refine V.NDraw.any (by kernel_rfl) ?_) | fail)
      all_goals (conv => whnf)
      · have e := w8 (fun h => by have := am.1 h; omega)
        rw [v0 (by omega), e]
        exact NRet.mk_ [some 4] rfl ⟨rfl, rfl, trivial⟩ ⟨⟨rfl, rfl, rfl, fun k hk => absurd hk (Nat.not_lt_zero _)⟩, trivial⟩
      · have e := w8 (fun h => by have := am.1 h; omega)
        rw [v0 (by omega), e]
        exact NRet.mk_ [some 4] rfl ⟨rfl, rfl, trivial⟩ ⟨⟨rfl, rfl, rfl, fun k hk => absurd hk (Nat.not_lt_zero _)⟩, trivial⟩
      · have hA := am.2 (ckz _ (by assumption))
        exact V.NBack.at_ (i + 1) [] ⟨by omega, fun u hu => (show u < i ∨ u = i by omega).elim (hJ u) (fun e => by rw [e]; exact hA)⟩ (by omega) (by repeat' (first | exact rfl | exact Iff.rfl | exact trivial | exact (fun _ _ => rfl) | exact (fun _ h => absurd h (Nat.not_lt_zero _)) | refine ⟨?_, ?_⟩ | exact Iff.rfl | exact congrArg (fun z => V.SV.one (V.At.val (Value.int .i64 z))) (by omega))) rfl ⟨⟨rfl, rfl, rfl, fun _ _ => rfl⟩, trivial⟩ (by repeat' (first | exact rfl | exact Iff.rfl | exact trivial | exact (fun _ _ => rfl) | exact (fun _ h => absurd h (Nat.not_lt_zero _)) | refine ⟨?_, ?_⟩ | exact Iff.rfl | exact congrArg (fun z => V.SV.one (V.At.val (Value.int .i64 z))) (by omega))) (by repeat' (first | exact rfl | exact Iff.rfl | exact trivial | exact (fun _ _ => rfl) | exact (fun _ h => absurd h (Nat.not_lt_zero _)) | refine ⟨?_, ?_⟩ | exact Iff.rfl | exact congrArg (fun z => V.SV.one (V.At.val (Value.int .i64 z))) (by omega)))
      · have e := w8 (fun h => absurd (ckn _ (am.1 h)) (by assumption))
        rw [v0 (by omega), e]
        exact NRet.mk_ [some 4] rfl ⟨rfl, rfl, trivial⟩ ⟨⟨rfl, rfl, rfl, fun k hk => absurd hk (Nat.not_lt_zero _)⟩, trivial⟩
    · obtain rfl : i = 21 := by omega
      have e0 := x3 (by assumption) (Bk.tw_no hJ)
      repeat' ((conv => whnf); first | refine V.NCond.mk ?_ | refine V.NIf.not_ ?_ | refine V.NIf.dec_ ?_ | refine V.NIf.no (by omega) ?_ | refine V.NIf.yes (by omega) ?_ | refine V.NIf.mk (fun _ => ?_) (fun _ => ?_) | refine V.NWrap.ok (by omega) (by omega) ?_ | refine V.NWrap.u64 (by omega) (by omega) ?_ | refine V.NLt.mk (by omega) ?_ | refine V.NBoth.mk ?_ ?_ | refine V.NTF.yes (by omega) ?_ | refine V.NTF.no (by omega) ?_ | refine V.NTF.dec ?_ | refine V.NDraw.q (by exact rfl) (by kernel_rfl) ?_ | refine V.NApp.one (by first | omega | (simp; omega)) (by first | omega | (simp; omega)) ?_ | (refine V.NDraw.any (by kernel_rfl) ?_) | fail)
      all_goals (conv => whnf)
      rw [v1 e0, e0, ← Bk.tl_end]
      exact NRet.mk_ [some 3] rfl ⟨rfl, rfl, trivial⟩ ⟨⟨rfl, rfl, (Bk.tl_len b 21).symm, fun k hk => rfl⟩, trivial⟩
  · have e := x1 (by assumption)
    rw [v0 (by omega), e]
    exact NRet.mk_ [some 2] rfl ⟨rfl, rfl, trivial⟩ ⟨⟨rfl, rfl, rfl, fun k hk => absurd hk (Nat.not_lt_zero _)⟩, trivial⟩
end Go.Proofs.Ytbaafjimlbodeaa

/- What the document's trial answers. -/
namespace Go.Proofs.Ytbaafjimlbodeaa
open Go Go.Sort Go.RowKit V
set_option maxRecDepth 100000
set_option linter.unusedVariables false
set_option linter.unusedSimpArgs false
set_option maxHeartbeats 4000000
theorem pos_snoc (l : List Int) (a : Int) : Bk.pos (l ++ [a]) = Bk.pos l ++ if 0 < a then [a] else [] := by
  unfold Bk.pos
  rw [List.filter_append]
  congr 1
  by_cases h : 0 < a
  · rw [if_pos h]; exact List.filter_cons_of_pos (decide_eq_true h)
  · rw [if_neg h]; exact List.filter_cons_of_neg (by rw [decide_eq_true_eq]; exact h)
theorem pos_len (l : List Int) : (Bk.pos l).length ≤ l.length := List.length_filter_le _ _
theorem v_rTrial (b : List Po) (hb : b.length ≤ 9223372036854775807) : V.FnR Try.prog 18 [.arr 3 b.length (ga encP b)] [.one (.ref 0)] (.tup [.one (.ref 1), .one (.val (.int .i64 (Bk.tE b)))]) [.row 3 1 (Bk.tV b).length (ga e1 (Bk.tV b))] := by
  have c1 := v_rLines b hb
  have lo := @Bk.lines_0 b
  have x1 : Bk.lines b ≠ 0 → Bk.tE b = Bk.lines b := fun h => if_pos h
  have x2 : Bk.lines b = 0 → Bk.tw b = true → Bk.tE b = 8 := fun h h2 => (if_neg (fun z => z h)).trans (if_pos h2)
  have x3 : Bk.lines b = 0 → Bk.tw b = false → Bk.tE b = 0 := fun h h2 => (if_neg (fun z => z h)).trans (if_neg (by rw [h2]; decide))
  have v0 : Bk.tE b ≠ 0 → Bk.tV b = [] := fun h => if_neg h
  have v1 : Bk.tE b = 0 → Bk.tV b = (List.range 21).map (Bk.ts b) := fun h => if_pos h
  generalize Bk.lines b = L at *
  refine V.FnR.mk_ V.Tok V.mixed Try.func18 rfl Try.ntmps18 (by kernel_rfl) rfl rfl rfl rfl ?_
  repeat' ((conv => whnf); first | refine V.NCond.mk ?_ | refine V.NIf.not_ ?_ | refine V.NIf.dec_ ?_ | refine V.NIf.no (by omega) ?_ | refine V.NIf.yes (by omega) ?_ | refine V.NIf.mk (fun _ => ?_) (fun _ => ?_) | refine V.NWrap.ok (by omega) (by omega) ?_ | refine V.NWrap.u64 (by omega) (by omega) ?_ | refine V.NLt.mk (by omega) ?_ | refine V.NBoth.mk ?_ ?_ | refine V.NTF.yes (by omega) ?_ | refine V.NTF.no (by omega) ?_ | refine V.NTF.dec ?_ | refine V.NDraw.q (by exact rfl) (by kernel_rfl) ?_ | refine V.NApp.one (by first | omega | (simp; omega)) (by first | omega | (simp; omega)) ?_ | ((first | refine V.Fn.k (c1) [0] rfl ?_ ?_ | refine V.Fn.q (c1) [0] rfl ?_ ?_ | refine V.Fn.a (c1) [0] rfl ?_ ?_); · ((repeat' (first | exact rfl | exact Iff.rfl | exact trivial | exact (fun _ _ => rfl) | exact (fun _ h => absurd h (Nat.not_lt_zero _)) | refine ⟨?_, ?_⟩ | exact Iff.rfl | exact congrArg (fun z => V.SV.one (V.At.val (Value.int .i64 z))) (by omega))); done)) | (refine V.NDraw.any (by kernel_rfl) ?_) | fail)
  all_goals (conv => whnf)
  · obtain ⟨⟨lb, hr, hs⟩, _⟩ := lo (by assumption)
    refine V.NLoop.auto (fun (u : Nat) => [(6, .one (.val (.int .i64 u))), (5, .one (.ref 2))]) (fun (u : Nat) => [(2, .row 3 1 ((List.range u).map (Bk.ts b)).length (ga e1 ((List.range u).map (Bk.ts b))))]) [] [] (fun (u : Nat) => 21 - u) (fun (u : Nat) => u ≤ 21 ∧ ∀ v, v < u → M.Amt (Bk.ts b v)) 0 ⟨Nat.zero_le _, fun u h => absurd h (Nat.not_lt_zero _)⟩ (by repeat' (first | exact rfl | exact Iff.rfl | exact trivial | exact (fun _ _ => rfl) | exact (fun _ h => absurd h (Nat.not_lt_zero _)) | refine ⟨?_, ?_⟩ | exact Iff.rfl | exact congrArg (fun z => V.SV.one (V.At.val (Value.int .i64 z))) (by omega))) (by repeat' (first | exact rfl | exact Iff.rfl | exact trivial | exact (fun _ _ => rfl) | exact (fun _ h => absurd h (Nat.not_lt_zero _)) | refine ⟨?_, ?_⟩ | exact Iff.rfl | exact congrArg (fun z => V.SV.one (V.At.val (Value.int .i64 z))) (by omega))) (fun _ => ⟨rfl, rfl⟩) ?_; (conv => whnf); refine ⟨⟨rfl, rfl⟩, ?_⟩
    rintro u ⟨hu, hJ⟩
    by_cases u1 : u < 21
    · have c := v_amof b (-1) (u : Int) (by omega)
      rw [Bk.sel_amu] at c
      have al := Bk.amu_len b u
      have aa := Bk.amu_amt hr u
      have pl := pos_len (Bk.amu b u)
      have d := v_sumof (Bk.pos (Bk.amu b u)) (by omega) (fun a ha => aa a (List.mem_filter.1 ha).1)
      have e := sofV_eq (Bk.pos (Bk.amu b u))
      have ets : M.sum (Bk.pos (Bk.amu b u)) = Bk.ts b u := rfl
      rw [ets] at d e
      have o1 : decide (M.Amt (Bk.ts b u)) = true ↔ M.Amt (Bk.ts b u) := decide_eq_true_iff
      generalize decide (M.Amt (Bk.ts b u)) = o at *
      rw [← o1] at e
      have es : o = true → M.sofV (Bk.pos (Bk.amu b u)) = Bk.ts b u := fun h => e.resolve_right (fun z => z h)
      generalize M.sofV (Bk.pos (Bk.amu b u)) = sv at *
      generalize Bk.amu b u = A at *
      repeat' ((conv => whnf); first | refine V.NCond.mk ?_ | refine V.NIf.not_ ?_ | refine V.NIf.dec_ ?_ | refine V.NIf.no (by omega) ?_ | refine V.NIf.yes (by omega) ?_ | refine V.NIf.mk (fun _ => ?_) (fun _ => ?_) | refine V.NWrap.ok (by omega) (by omega) ?_ | refine V.NWrap.u64 (by omega) (by omega) ?_ | refine V.NLt.mk (by omega) ?_ | refine V.NBoth.mk ?_ ?_ | refine V.NTF.yes (by omega) ?_ | refine V.NTF.no (by omega) ?_ | refine V.NTF.dec ?_ | refine V.NDraw.q (by exact rfl) (by kernel_rfl) ?_ | refine V.NApp.one (by first | omega | (simp; omega)) (by first | omega | (simp; omega)) ?_ | ((first | refine V.FnR.k_ (c) [0] rfl ?_ ?_ | refine V.FnR.a_ (c) [0] rfl ?_ ?_); · ((repeat' (first | exact rfl | exact Iff.rfl | exact trivial | exact (fun _ _ => rfl) | exact (fun _ h => absurd h (Nat.not_lt_zero _)) | refine ⟨?_, ?_⟩ | exact Iff.rfl | exact congrArg (fun z => V.SV.one (V.At.val (Value.int .i64 z))) (by omega))); done)) | (refine V.NDraw.any (by kernel_rfl) ?_) | fail)
      all_goals (conv => whnf)
      refine V.NLoop.auto (fun (i : Nat) => [(9, .one (.val (.int .i64 i))), (8, .one (.ref 4))]) (fun (i : Nat) => [(4, .row 3 1 (Bk.pos (A.take i)).length (ga e1 (Bk.pos (A.take i))))]) [] [] (fun (i : Nat) => A.length - i) (fun (i : Nat) => i ≤ A.length) 0 (Nat.zero_le _) (by repeat' (first | exact rfl | exact Iff.rfl | exact trivial | exact (fun _ _ => rfl) | exact (fun _ h => absurd h (Nat.not_lt_zero _)) | refine ⟨?_, ?_⟩ | exact Iff.rfl | exact congrArg (fun z => V.SV.one (V.At.val (Value.int .i64 z))) (by omega))) (by repeat' (first | exact rfl | exact Iff.rfl | exact trivial | exact (fun _ _ => rfl) | exact (fun _ h => absurd h (Nat.not_lt_zero _)) | refine ⟨?_, ?_⟩ | exact Iff.rfl | exact congrArg (fun z => V.SV.one (V.At.val (Value.int .i64 z))) (by omega))) (fun _ => ⟨rfl, rfl⟩) ?_; (conv => whnf); refine ⟨⟨rfl, rfl⟩, ?_⟩
      rintro i hi
      have pi := pos_len (A.take i)
      have tl : (A.take i).length = i := by rw [List.length_take]; omega
      by_cases i1 : i < A.length
      · have sn : Bk.pos (A.take (i + 1)) = Bk.pos (A.take i) ++ if 0 < A.getD i default then [A.getD i default] else [] := by rw [← pos_snoc, getD_at i1, List.take_succ_eq_append_getElem i1]
        repeat' ((conv => whnf); first | refine V.NCond.mk ?_ | refine V.NIf.not_ ?_ | refine V.NIf.dec_ ?_ | refine V.NIf.no (by omega) ?_ | refine V.NIf.yes (by omega) ?_ | refine V.NIf.mk (fun _ => ?_) (fun _ => ?_) | refine V.NWrap.ok (by omega) (by omega) ?_ | refine V.NWrap.u64 (by omega) (by omega) ?_ | refine V.NLt.mk (by omega) ?_ | refine V.NBoth.mk ?_ ?_ | refine V.NTF.yes (by omega) ?_ | refine V.NTF.no (by omega) ?_ | refine V.NTF.dec ?_ | refine V.NDraw.q (by exact rfl) (by kernel_rfl) ?_ | refine V.NApp.one (by first | omega | (simp; omega)) (by first | omega | (simp; omega)) ?_ | (refine NIdx.mk ⟨i, rfl, by omega, ?_⟩) | (refine V.NDraw.any (by kernel_rfl) ?_) | fail)
        all_goals (conv => whnf)
        · exact V.NBack.at_ (i + 1) [(4, 6)] (by omega) (by omega) (by repeat' (first | exact rfl | exact Iff.rfl | exact trivial | exact (fun _ _ => rfl) | exact (fun _ h => absurd h (Nat.not_lt_zero _)) | refine ⟨?_, ?_⟩ | exact Iff.rfl | exact congrArg (fun z => V.SV.one (V.At.val (Value.int .i64 z))) (by omega))) rfl ⟨ObLe.as_ (sn.trans (by rw [if_pos (by assumption)])), trivial⟩ (by repeat' (first | exact rfl | exact Iff.rfl | exact trivial | exact (fun _ _ => rfl) | exact (fun _ h => absurd h (Nat.not_lt_zero _)) | refine ⟨?_, ?_⟩ | exact Iff.rfl | exact congrArg (fun z => V.SV.one (V.At.val (Value.int .i64 z))) (by omega))) (by repeat' (first | exact rfl | exact Iff.rfl | exact trivial | exact (fun _ _ => rfl) | exact (fun _ h => absurd h (Nat.not_lt_zero _)) | refine ⟨?_, ?_⟩ | exact Iff.rfl | exact congrArg (fun z => V.SV.one (V.At.val (Value.int .i64 z))) (by omega)))
        · exact V.NBack.at_ (i + 1) [] (by omega) (by omega) (by repeat' (first | exact rfl | exact Iff.rfl | exact trivial | exact (fun _ _ => rfl) | exact (fun _ h => absurd h (Nat.not_lt_zero _)) | refine ⟨?_, ?_⟩ | exact Iff.rfl | exact congrArg (fun z => V.SV.one (V.At.val (Value.int .i64 z))) (by omega))) rfl ⟨ObLe.as_ (sn.trans (by rw [if_neg (by assumption), List.append_nil])), trivial⟩ (by repeat' (first | exact rfl | exact Iff.rfl | exact trivial | exact (fun _ _ => rfl) | exact (fun _ h => absurd h (Nat.not_lt_zero _)) | refine ⟨?_, ?_⟩ | exact Iff.rfl | exact congrArg (fun z => V.SV.one (V.At.val (Value.int .i64 z))) (by omega))) (by repeat' (first | exact rfl | exact Iff.rfl | exact trivial | exact (fun _ _ => rfl) | exact (fun _ h => absurd h (Nat.not_lt_zero _)) | refine ⟨?_, ?_⟩ | exact Iff.rfl | exact congrArg (fun z => V.SV.one (V.At.val (Value.int .i64 z))) (by omega)))
      · obtain rfl : i = A.length := by omega
        rw [List.take_length]
        have rs : (List.range (u + 1)).map (Bk.ts b) = (List.range u).map (Bk.ts b) ++ [Bk.ts b u] := by rw [List.range_succ, List.map_append]; rfl
        have rl : ((List.range u).map (Bk.ts b)).length = u := by simp
        repeat' ((conv => whnf); first | refine V.NCond.mk ?_ | refine V.NIf.not_ ?_ | refine V.NIf.dec_ ?_ | refine V.NIf.no (by omega) ?_ | refine V.NIf.yes (by omega) ?_ | refine V.NIf.mk (fun _ => ?_) (fun _ => ?_) | refine V.NWrap.ok (by omega) (by omega) ?_ | refine V.NWrap.u64 (by omega) (by omega) ?_ | refine V.NLt.mk (by omega) ?_ | refine V.NBoth.mk ?_ ?_ | refine V.NTF.yes (by omega) ?_ | refine V.NTF.no (by omega) ?_ | refine V.NTF.dec ?_ | refine V.NDraw.q (by exact rfl) (by kernel_rfl) ?_ | refine V.NApp.one (by first | omega | (simp; omega)) (by first | omega | (simp; omega)) ?_ | ((first | refine V.Fn.k (d) [4] rfl ?_ ?_ | refine V.Fn.q (d) [4] rfl ?_ ?_ | refine V.Fn.a (d) [4] rfl ?_ ?_); · ((repeat' (first | exact rfl | exact Iff.rfl | exact trivial | exact (fun _ _ => rfl) | exact (fun _ h => absurd h (Nat.not_lt_zero _)) | refine ⟨?_, ?_⟩ | exact Iff.rfl | exact congrArg (fun z => V.SV.one (V.At.val (Value.int .i64 z))) (by omega))); done)) | (refine V.NDraw.any (by kernel_rfl) ?_) | fail)
        all_goals (conv => whnf)
        · have hA := o1.1 (by assumption)
          have hs := es (by assumption)
          exact V.NBack.at_ (u + 1) [(2, 6)] ⟨by omega, fun v hv => (show v < u ∨ v = u by omega).elim (hJ v) (fun e => by rw [e]; exact hA)⟩ (by omega) (by repeat' (first | exact rfl | exact Iff.rfl | exact trivial | exact (fun _ _ => rfl) | exact (fun _ h => absurd h (Nat.not_lt_zero _)) | refine ⟨?_, ?_⟩ | exact Iff.rfl | exact congrArg (fun z => V.SV.one (V.At.val (Value.int .i64 z))) (by omega))) rfl ⟨ObLe.as_ (rs.trans (by rw [hs])), trivial⟩ (by repeat' (first | exact rfl | exact Iff.rfl | exact trivial | exact (fun _ _ => rfl) | exact (fun _ h => absurd h (Nat.not_lt_zero _)) | refine ⟨?_, ?_⟩ | exact Iff.rfl | exact congrArg (fun z => V.SV.one (V.At.val (Value.int .i64 z))) (by omega))) (by repeat' (first | exact rfl | exact Iff.rfl | exact trivial | exact (fun _ _ => rfl) | exact (fun _ h => absurd h (Nat.not_lt_zero _)) | refine ⟨?_, ?_⟩ | exact Iff.rfl | exact congrArg (fun z => V.SV.one (V.At.val (Value.int .i64 z))) (by omega)))
        · have w := x2 (by assumption) (Bk.tw_yes u1 (fun h => absurd (o1.2 h) (by assumption)))
          rw [v0 (by omega), w]
          exact NRet.mk_ [some 5] rfl ⟨rfl, rfl, trivial⟩ ⟨⟨rfl, rfl, rfl, fun k hk => absurd hk (Nat.not_lt_zero _)⟩, trivial⟩
    · obtain rfl : u = 21 := by omega
      have e0 := x3 (by assumption) (Bk.tw_no hJ)
      repeat' ((conv => whnf); first | refine V.NCond.mk ?_ | refine V.NIf.not_ ?_ | refine V.NIf.dec_ ?_ | refine V.NIf.no (by omega) ?_ | refine V.NIf.yes (by omega) ?_ | refine V.NIf.mk (fun _ => ?_) (fun _ => ?_) | refine V.NWrap.ok (by omega) (by omega) ?_ | refine V.NWrap.u64 (by omega) (by omega) ?_ | refine V.NLt.mk (by omega) ?_ | refine V.NBoth.mk ?_ ?_ | refine V.NTF.yes (by omega) ?_ | refine V.NTF.no (by omega) ?_ | refine V.NTF.dec ?_ | refine V.NDraw.q (by exact rfl) (by kernel_rfl) ?_ | refine V.NApp.one (by first | omega | (simp; omega)) (by first | omega | (simp; omega)) ?_ | (refine V.NDraw.any (by kernel_rfl) ?_) | fail)
      all_goals (conv => whnf)
      rw [v1 e0, e0]
      exact NRet.mk_ [some 2] rfl ⟨rfl, rfl, trivial⟩ ⟨⟨rfl, rfl, rfl, fun k hk => rfl⟩, trivial⟩
  · have e := x1 (by assumption)
    rw [v0 (by omega), e]
    exact NRet.mk_ [some 2] rfl ⟨rfl, rfl, trivial⟩ ⟨⟨rfl, rfl, rfl, fun k hk => absurd hk (Nat.not_lt_zero _)⟩, trivial⟩
end Go.Proofs.Ytbaafjimlbodeaa

/- Plain facts on books: the ones that must be in any case. -/
namespace Go.Proofs.Ytbaafjimlbodeaa
set_option maxRecDepth 100000
set_option linter.unusedVariables false
def l0 : List Po := [⟨2, 0, 5⟩, ⟨1, 0, -8⟩, ⟨3, 0, 3⟩]
def b0 : List Po := [⟨1, 0, -8⟩, ⟨2, 0, 5⟩, ⟨3, 0, 3⟩]
def t0 : List Po := [⟨3, 0, -3⟩, ⟨1, 0, 8⟩, ⟨2, 0, -5⟩]
theorem bg1 : Bk.pE [] l0 = 0 := by kernel_rfl
theorem bg2 : Bk.pL [] l0 = b0 := by kernel_rfl
theorem bg3 : Bk.bE b0 1 0 = 0 ∧ Bk.bV b0 1 0 = -8 := ⟨by kernel_rfl, by kernel_rfl⟩
theorem bg4 : Bk.chk l0 = 0 ∧ Bk.tL l0 = t0 := ⟨by kernel_rfl, by kernel_rfl⟩
theorem bg5 : Bk.pE b0 t0 = 0 ∧ Bk.pL b0 t0 = [] := ⟨by kernel_rfl, by kernel_rfl⟩
theorem bg6 : Bk.tE b0 = 0 ∧ Bk.tV b0 = [8, 0, 0, 0, 0, 0, 0, 0, 0, 0, 0, 0, 0, 0, 0, 0, 0, 0, 0, 0, 0] := ⟨by kernel_rfl, by kernel_rfl⟩
theorem bg7 : Bk.pE b0 (l0.take 2) = 4 ∧ Bk.pL b0 (l0.take 2) = [] := ⟨by kernel_rfl, by kernel_rfl⟩
theorem bg8 : Bk.chk [] = 1 ∧ Bk.lines [] = 0 := ⟨by kernel_rfl, by kernel_rfl⟩
end Go.Proofs.Ytbaafjimlbodeaa

/- A call may be seen over fewer, or weaker, objects. -/
namespace Go.Proofs.Ytbaafjimlbodeaa.V
open Go Go.RowKit
set_option linter.unusedVariables false
theorem NCall.le {P : Program} {f : FuncId} {args : List SV} {obs : Obs} {nx : Nat} {K : SV → Obs → Nat → Prop} (obs' : Obs) (ho : ObsLe (sgm []) obs obs') (hb : obsB nx obs' = true) (h : NCall P f args obs' nx K) : NCall P f args obs nx K := by
  refine ⟨h.b, fun B ρ w xs hC hxs => ?_⟩
  have c := hC.head ho hb (injB_id nx)
  have e : cut nx (via (sgm []) ρ) = ρ := funext fun i => by
    unfold cut via
    split
    · rfl
    · exact (hC.new i (by omega)).symm
  rw [e] at c
  exact h.h B ρ w xs c hxs
theorem fnd_cons2 {α : Type} {i j : Nat} {x : α} {l : List (Nat × α)} {o : α} (h : fnd ((i, x) :: l) j = some o) : (i = j ∧ o = x) ∨ (i ≠ j ∧ fnd l j = some o) := by
  unfold fnd at h
  cases q : Nat.beq i j
  · rw [q] at h
    exact .inr ⟨fun e => by subst e; simp at q, h⟩
  · rw [q] at h
    exact .inl ⟨Nat.eq_of_beq_eq_true q, (Option.some.inj h).symm⟩
theorem Cls.lit {B nx : Nat} {ρ : Rho} {obs : Obs} {w : World} (hC : Cls B ρ obs nx w) {i : Nat} {t : TypeId} {s n : Nat} {rows : List (List At)} {g : Nat → List Value} (hf : fnd obs i = some (.lit t s rows)) (ht : ObTo id (.lit t s rows) (.arr s n g)) : Cls B ρ ((i, .arr s n g) :: obs) nx w := by
  have nf : ∀ b, foot ρ i (.arr s n g) = some b → foot ρ i (.lit t s rows) = some b := fun b hb => by
    unfold foot at hb ⊢
    cases n with
    | zero => cases hb
    | succ n => exact hb
  refine ⟨hC.le, fun j o h => ?_, fun j k o o' b h1 h2 hne hm hb => ?_, hC.new⟩
  · rcases fnd_cons2 h with ⟨rfl, rfl⟩ | ⟨_, h⟩
    · obtain ⟨v, e, hr⟩ := ObTo.ro ht (hC.sat _ _ hf)
      exact ⟨v, e, hr⟩
    · exact hC.sat j o h
  · rcases fnd_cons2 h1 with ⟨rfl, rfl⟩ | ⟨_, h1⟩
    · cases hm
    · rcases fnd_cons2 h2 with ⟨rfl, rfl⟩ | ⟨_, h2⟩
      · exact fun z => hC.apart j _ o _ b h1 hf hne hm hb (nf b z)
      · exact hC.apart j k o o' b h1 h2 hne hm hb
/-- a literal that is only read from here on -/
theorem NCall.lit_ {P : Program} {f : FuncId} {args : List SV} {obs : Obs} {nx : Nat} {K : SV → Obs → Nat → Prop} (i : Nat) {t : TypeId} {s n : Nat} {rows : List (List At)} {g : Nat → List Value} (hf : fnd obs i = some (.lit t s rows)) (ht : ObTo id (.lit t s rows) (.arr s n g)) (h : NCall P f args ((i, .arr s n g) :: obs) nx K) : NCall P f args obs nx K :=
  ⟨h.b, fun B ρ w xs hC hxs => h.h B ρ w xs (hC.lit hf ht) hxs⟩
end Go.Proofs.Ytbaafjimlbodeaa.V

/- What the book's law begins with: it is true. -/
namespace Go.Proofs.Ytbaafjimlbodeaa
open Go Go.Sort Go.RowKit V
set_option maxRecDepth 100000
set_option linter.unusedVariables false
set_option linter.unusedSimpArgs false
set_option maxHeartbeats 4000000
theorem cut2 (k : Nat) (hk : k < 2) : ga encP l0 (0 + k) = ga encP (l0.take 2) k := by rw [Nat.zero_add, ga_take hk (by decide)]
theorem v_bkBegun : V.Fn Try.prog 19 [] [] (.bool true) := by
  have p1 := v_bkPost [] l0 (by decide) (by decide)
  have p2 := v_bkBalance b0 1 0 (by decide)
  have p3 := v_bkTurn l0 (by decide)
  have p4 := v_bkPost b0 t0 (by decide) (by decide)
  have p5 := v_bkTrial b0 (by decide)
  have p6 := v_bkPost b0 (l0.take 2) (by decide) (by decide)
  have p7 := v_bkCheck [] (by decide)
  have p8 := v_bkLines [] (by decide)
  rw [bg1, bg2] at p1
  rw [bg3.1, bg3.2] at p2
  rw [bg4.1, bg4.2] at p3
  rw [bg5.1, bg5.2] at p4
  rw [bg6.1, bg6.2] at p5
  rw [bg7.1, bg7.2] at p6
  rw [bg8.1] at p7
  rw [bg8.2] at p8
  refine V.Fn.mk_ V.Tok V.mixed Try.func19 rfl Try.ntmps19 (by kernel_rfl) rfl rfl ?_
  have s1 := v_sameposts b0 b0 (by decide)
  have s2 := v_sameposts t0 t0 (by decide)
  rw [show decide (b0 = b0) = true from decide_eq_true rfl] at s1
  rw [show decide (t0 = t0) = true from decide_eq_true rfl] at s2
  repeat' ((conv => whnf); first | (refine V.NIf.yes ?_ ?_; · (decide; done)) | (refine V.NIf.no ?_ ?_; · (decide; done)) | refine V.NCond.mk ?_ | refine V.NIf.not_ ?_ | refine V.NIf.dec_ ?_ | refine V.NIf.no (by omega) ?_ | refine V.NIf.yes (by omega) ?_ | refine V.NIf.mk (fun _ => ?_) (fun _ => ?_) | refine V.NWrap.ok (by omega) (by omega) ?_ | refine V.NWrap.u64 (by omega) (by omega) ?_ | refine V.NLt.mk (by omega) ?_ | refine V.NBoth.mk ?_ ?_ | refine V.NTF.yes (by omega) ?_ | refine V.NTF.no (by omega) ?_ | refine V.NTF.dec ?_ | refine V.NDraw.q (by exact rfl) (by kernel_rfl) ?_ | refine V.NApp.one (by first | omega | (simp; omega)) (by first | omega | (simp; omega)) ?_ | (refine NCall.nil_ 0 3 rfl ?_; refine NCall.lit_ (n := 3) (g := ga encP l0) 0 rfl (by repeat' (first | exact rfl | exact Iff.rfl | exact trivial | exact (fun _ _ => rfl) | exact (fun _ h => absurd h (Nat.not_lt_zero _)) | refine ⟨?_, ?_⟩ | exact Iff.rfl | exact congrArg (fun z => V.SV.one (V.At.val (Value.int .i64 z))) (by omega))) ?_) | ((first | refine V.FnR.k_ (p1) [1, 0] rfl ?_ ?_ | refine V.FnR.a_ (p1) [1, 0] rfl ?_ ?_); · ((repeat' (first | exact rfl | exact Iff.rfl | exact trivial | exact (fun _ _ => rfl) | exact (fun _ h => absurd h (Nat.not_lt_zero _)) | refine ⟨?_, ?_⟩ | exact Iff.rfl | exact congrArg (fun z => V.SV.one (V.At.val (Value.int .i64 z))) (by omega))); done)) | ((first | refine V.Fn.k (p2) [2] rfl ?_ ?_ | refine V.Fn.q (p2) [2] rfl ?_ ?_ | refine V.Fn.a (p2) [2] rfl ?_ ?_); · ((repeat' (first | exact rfl | exact Iff.rfl | exact trivial | exact (fun _ _ => rfl) | exact (fun _ h => absurd h (Nat.not_lt_zero _)) | refine ⟨?_, ?_⟩ | exact Iff.rfl | exact congrArg (fun z => V.SV.one (V.At.val (Value.int .i64 z))) (by omega))); done)) | ((first | refine V.FnR.k_ (p3) [0] rfl ?_ ?_ | refine V.FnR.a_ (p3) [0] rfl ?_ ?_); · ((repeat' (first | exact rfl | exact Iff.rfl | exact trivial | exact (fun _ _ => rfl) | exact (fun _ h => absurd h (Nat.not_lt_zero _)) | refine ⟨?_, ?_⟩ | exact Iff.rfl | exact congrArg (fun z => V.SV.one (V.At.val (Value.int .i64 z))) (by omega))); done)) | ((first | refine V.FnR.k_ (p4) [2, 3] rfl ?_ ?_ | refine V.FnR.a_ (p4) [2, 3] rfl ?_ ?_); · ((repeat' (first | exact rfl | exact Iff.rfl | exact trivial | exact (fun _ _ => rfl) | exact (fun _ h => absurd h (Nat.not_lt_zero _)) | refine ⟨?_, ?_⟩ | exact Iff.rfl | exact congrArg (fun z => V.SV.one (V.At.val (Value.int .i64 z))) (by omega))); done)) | ((first | refine V.FnR.k_ (p5) [2] rfl ?_ ?_ | refine V.FnR.a_ (p5) [2] rfl ?_ ?_); · ((repeat' (first | exact rfl | exact Iff.rfl | exact trivial | exact (fun _ _ => rfl) | exact (fun _ h => absurd h (Nat.not_lt_zero _)) | refine ⟨?_, ?_⟩ | exact Iff.rfl | exact congrArg (fun z => V.SV.one (V.At.val (Value.int .i64 z))) (by omega))); done)) | (refine NCut.mk ⟨0, 2, rfl, rfl, by decide, by decide, ?_⟩) | (refine NIdx.mk ⟨0, rfl, by decide, ?_⟩) | (refine V.NLt.mk (by decide) ?_) | ((refine V.FnR.k_ p6 [2, 6] rfl ?_ ?_); · exact ⟨⟨rfl, rfl, fun k hk => rfl⟩, ⟨rfl, rfl, fun k hk => cut2 k hk⟩, trivial⟩) | (refine NCall.nil_ 0 3 rfl ?_) | ((first | refine V.Fn.k (p7) [10] rfl ?_ ?_ | refine V.Fn.q (p7) [10] rfl ?_ ?_ | refine V.Fn.a (p7) [10] rfl ?_ ?_); · ((repeat' (first | exact rfl | exact Iff.rfl | exact trivial | exact (fun _ _ => rfl) | exact (fun _ h => absurd h (Nat.not_lt_zero _)) | refine ⟨?_, ?_⟩ | exact Iff.rfl | exact congrArg (fun z => V.SV.one (V.At.val (Value.int .i64 z))) (by omega))); done)) | ((first | refine V.Fn.k (p8) [11] rfl ?_ ?_ | refine V.Fn.q (p8) [11] rfl ?_ ?_ | refine V.Fn.a (p8) [11] rfl ?_ ?_); · ((repeat' (first | exact rfl | exact Iff.rfl | exact trivial | exact (fun _ _ => rfl) | exact (fun _ h => absurd h (Nat.not_lt_zero _)) | refine ⟨?_, ?_⟩ | exact Iff.rfl | exact congrArg (fun z => V.SV.one (V.At.val (Value.int .i64 z))) (by omega))); done)) | ((first | refine V.Fn.k (s1) [2, 8] rfl ?_ ?_ | refine V.Fn.q (s1) [2, 8] rfl ?_ ?_ | refine V.Fn.a (s1) [2, 8] rfl ?_ ?_); · ((repeat' (first | exact rfl | exact Iff.rfl | exact trivial | exact (fun _ _ => rfl) | exact (fun _ h => absurd h (Nat.not_lt_zero _)) | refine ⟨?_, ?_⟩ | exact Iff.rfl | exact congrArg (fun z => V.SV.one (V.At.val (Value.int .i64 z))) (by omega))); done)) | ((first | refine V.Fn.k (s2) [3, 9] rfl ?_ ?_ | refine V.Fn.q (s2) [3, 9] rfl ?_ ?_ | refine V.Fn.a (s2) [3, 9] rfl ?_ ?_); · ((repeat' (first | exact rfl | exact Iff.rfl | exact trivial | exact (fun _ _ => rfl) | exact (fun _ h => absurd h (Nat.not_lt_zero _)) | refine ⟨?_, ?_⟩ | exact Iff.rfl | exact congrArg (fun z => V.SV.one (V.At.val (Value.int .i64 z))) (by omega))); done)) | (refine V.NDraw.any (by kernel_rfl) ?_) | fail)
  all_goals (conv => whnf)
  exact ⟨true, rfl, iff_of_true rfl rfl⟩
end Go.Proofs.Ytbaafjimlbodeaa

/- Plain facts on books: what is posted comes out even. -/
namespace Go.Proofs.Ytbaafjimlbodeaa
set_option linter.unusedVariables false
set_option linter.unusedSimpArgs false
namespace Bk
def kk (a u : Int) : Nat := (21 * a + u).toNat
theorem kk_r {a u : Int} (k : Kn a u) : kk a u < 2121 ∧ ((kk a u : Nat) : Int) = 21 * a + u := by
  obtain ⟨h1, h2⟩ := k
  unfold kk
  omega
theorem kk_key {a u : Int} (k : Kn a u) {p : Po} (h : Right p) : key p = kk a u ↔ p.ac = a ∧ p.ut = u := by
  obtain ⟨⟨h1, h2⟩, _⟩ := h
  obtain ⟨h3, h4⟩ := k
  unfold kk key
  omega
theorem amAt_tot {b : List Po} (h : Lines b) {a u : Int} (k : Kn a u) : amAt b a u = tot b (kk a u) := by
  unfold amAt
  rcases ixf_cases (at? a u) b with ⟨e, al⟩ | ⟨i, e, hi, hp, _⟩
  · rw [e, if_neg (by decide), tot_none fun p hp q => ?_]
    have := al p hp
    unfold at? at this
    rw [decide_eq_false_iff_not] at this
    exact this ((kk_key k (h.r p hp)).1 q)
  · unfold at? at hp
    rw [decide_eq_true_eq] at hp
    rw [e, if_pos (by omega), Int.toNat_natCast, ← (kk_key k (h.r _ (getD_mem hi))).2 hp, tot_in (ne_of_lt (lines_srt h)) (getD_mem hi)]
theorem tot_amt {b : List Po} (h : Lines b) (k : Nat) : M.Amt (tot b k) := by
  by_cases q : ∃ p ∈ b, key p = k
  · obtain ⟨p, hp, rfl⟩ := q
    rw [tot_in (ne_of_lt (lines_srt h)) hp]
    exact (h.r p hp).2.1
  · rw [tot_none fun p hp e => q ⟨p, hp, e⟩]
    unfold M.Amt
    omega
structure Posted (b l : List Po) : Prop where
  bo : Lines b
  be : even b = true
  n : 0 < l.length ∧ l.length ≤ 60
  r : ∀ p ∈ l, Right p
  le : even l = true
  a : ∀ k, k < 2121 → M.Amt (tot (b ++ l) k)
  m : (out (tot (b ++ l)) 2121).length ≤ 400
theorem pE_0 {b l : List Po} : pE b l = 0 ↔ Posted b l := by
  constructor
  · intro h
    rcases pE_cases b l with ⟨a, e⟩ | ⟨_, a, e⟩ | ⟨h1, h2, e⟩
    · rw [h] at e; exact absurd e.symm a
    · rw [h] at e; exact absurd e.symm a
    · obtain ⟨m1, m2⟩ := mE_0 (e.symm.trans h)
      obtain ⟨l1, l2⟩ := lines_0 h1
      obtain ⟨c1, c2, c3⟩ := chk_0 h2
      exact ⟨l1, l2, c1, c2, c3, m1, m2⟩
  · rintro ⟨h1, h2, h3, h4, h5, h6, h7⟩
    rcases pE_cases b l with ⟨a, e⟩ | ⟨_, a, e⟩ | ⟨_, _, e⟩
    · exact absurd (lines_is h1 h2) a
    · exact absurd (chk_is h3 h4 h5) a
    · rw [e, mE_is h6, if_neg (by omega)]
theorem po_pL {b l : List Po} (h : Posted b l) : pL b l = out (tot (b ++ l)) 2121 := if_pos (pE_0.2 h)
theorem po_lines {b l : List Po} (h : Posted b l) : Lines (Bk.pL b l) := by
  rw [po_pL h]
  exact out_lines h.a h.m
theorem po_tot {b l : List Po} (h : Posted b l) {k : Nat} (hk : k < 2121) : tot (Bk.pL b l) k = Bk.tot b k + Bk.tot l k := by
  rw [po_pL h, tot_out hk, tot_app]
theorem po_even {b l : List Po} (h : Posted b l) : even (Bk.pL b l) = true := by
  rw [even_su (po_lines h).r]
  intro u hu
  have e1 := (even_su h.bo.r).1 h.be u hu
  have e2 := (even_su h.r).1 h.le u hu
  rw [su_congr (T := fun k => Bk.tot b k + Bk.tot l k) fun j hj => po_tot h (by omega), su_add, e1, e2]
  rfl
theorem po_ok {b l : List Po} (h : Posted b l) : Bk.lines (Bk.pL b l) = 0 := lines_is (po_lines h) (po_even h)
theorem bE_is {b : List Po} (h : Bk.lines b = 0) (a u : Int) : bE b a u = if Kn a u then 0 else 3 := if_neg (fun z => z h)
theorem bV_is {b : List Po} (h : Lines b) (e : even b = true) {a u : Int} (k : Kn a u) : bV b a u = tot b (kk a u) := by
  unfold bV
  rw [bE_is (lines_is h e), if_pos k, if_pos rfl, amAt_tot h k]
/-- two books of the same totals are one -/
theorem book_ext {b c : List Po} (hb : Lines b) (hc : Lines c) (h : ∀ k, k < 2121 → tot b k = tot c k) : b = c := by
  rw [is_out hb, is_out hc]
  have : ∀ n, n ≤ 2121 → out (tot b) n = out (tot c) n := fun n => by
    induction n with
    | zero => intro _; rfl
    | succ n ih => intro hn; rw [out_succ, out_succ, ih (by omega), h n (by omega)]
  exact this 2121 (Nat.le_refl _)
end Bk
end Go.Proofs.Ytbaafjimlbodeaa

/- How a struct api.Posting, and a list of such, are read off an argument. -/
namespace Go.Proofs.Ytbaafjimlbodeaa
open Go Go.RowKit Go.ChangeShapes Go.WideShapes Go.Deep V
set_option linter.unusedVariables false
set_option maxRecDepth 100000
noncomputable def poFields : Array Field := (match Try.prog.underlying 35 with | some (.struct fs) => fs | _ => #[])
theorem poStruct : Try.prog.underlying 35 = some (.struct poFields) := by kernel_rfl
theorem poOne : oneCellFields Try.prog poFields = true := by kernel_rfl
theorem poSize : poFields.size = 3 := by kernel_rfl
theorem poCells : Try.prog.cellsOf 35 = 3 := by kernel_rfl
theorem poInts : (List.range 3).all (fun j => (poFields[j]?).all (fun f => decide (f.type = 3))) = true := by kernel_rfl
theorem poInt (j : Nat) (f : Field) (h : poFields[j]? = some f) : Try.prog.underlying f.type = some (.int .i64) := by
  have hj : j < 3 := by have := (Array.getElem?_eq_some_iff.1 h).1; rw [poSize] at this; exact this
  have := List.all_eq_true.1 poInts j (List.mem_range.2 hj)
  rw [h] at this
  have e : f.type = 3 := by simpa using this
  rw [e]
  exact Try.underlying3
def WfPo (d : Po) : Prop := ∀ n ∈ [d.ac, d.ut, d.am], (Lit.int .i64 n).wf = true
theorem po_of {H : Type} {enc : TypeId × Value → H} {w : World} {base : Nat} {spare : Nat → Bool} {held : Bool} {fuel : Nat} {cs : List Value} {x : DataW H × List MemPlace} (h : DataW.trod enc Try.prog w base spare held fuel 35 cs = some x) :
    ∃ f : Po, cs = encP f ∧ WfPo f := by
  obtain ⟨ns, e, hl, wf⟩ := ints_struct poStruct poOne (poCells.trans poSize.symm) poInt h
  rw [poSize] at hl
  match ns, hl with
  | [a0, a1, a2], _ => exact ⟨⟨a0, a1, a2⟩, by simpa [encP] using e, wf⟩
theorem open_po {H : Type} {enc : TypeId × Value → H} {W : World} {base : Nat} {spare : Nat → Bool} {held : Bool} {r : Reach} {b0 : Nat} {v : Value} {d : DataW H} {p : List MemPlace} (hv : Value.okWide Try.prog W r b0 35 v) (h : DataW.Trod enc Try.prog W base spare held 35 v d p) :
    ∃ f : Po, v = .agg #[.int .i64 f.ac, .int .i64 f.ut, .int .i64 f.am] ∧ WfPo f := by
  obtain ⟨cs, rfl, _⟩ := okWide_struct poStruct hv
  obtain ⟨fuel, hf⟩ := h
  obtain ⟨f, e, wf⟩ := po_of hf
  refine ⟨f, ?_, wf⟩
  obtain ⟨l⟩ := cs
  simp only [Value.cells] at e
  subst e
  rfl
theorem open_pos {H : Type} {enc : TypeId × Value → H} {W : World} {base : Nat} {spare : Nat → Bool} {held : Bool} {r : Reach} {b0 : Nat} {v : Value} {d : DataW H} {p : List MemPlace} {t : Nat} (ht : Try.prog.underlying t = some (.slice 35)) (hv : Value.okWide Try.prog W r b0 t v) (h : DataW.Trod enc Try.prog W base spare held t v d p) :
    ∃ l : List Po, ArrIs W v 3 l.length (ga encP l) ∧ ∀ f ∈ l, WfPo f :=
  open_list ht poCells (by omega) (fun fuel cs x hx => by
    obtain ⟨f, e, wf⟩ := po_of hx
    exact ⟨f, e, wf⟩) hv h
end Go.Proofs.Ytbaafjimlbodeaa
