/- Shared texts, one behind the other: VRep5, RepPl3, VRep6, VRep7, VPen2, VPen3, BookPl, NetPl, VNet1, VNet2, VSumOf, VNet3, VPen4, VAgeB, LotPl, VSame, VPenB, PenPl2, RepPl4, VPenC, VSameI, VRepB, VRepTna, VRepTnb, VRepTnc, VRepTya, VRepTyb, VRepTyc, VOpenI, VOpenC, VOpenF, VRep9 -/
import Derived.Test.YtdehibmofmfkbaaZ1
import Derived.Test.YtdehibmofmfkbaaZ2
import Derived.Test.YtdehibmofmfkbaaZ3
import Derived.Test.YtdehibmofmfkbaaZ4
set_option linter.unusedVariables false
set_option linter.unusedSimpArgs false
set_option linter.unusedSectionVars false
set_option maxRecDepth 100000

namespace Go.Proofs.Ytdehibmofmfkbaa
open Go Go.RowKit V
theorem Rp.top_snoc {pr : List Int} {l : List Fl} {i : Nat} (h : i < (Rp.srt (Rp.wts pr l)).length) : ((Rp.tp pr l).take (i + 1)).map (·.id) = ((Rp.tp pr l).take i).map (·.id) ++ [((Rp.srt (Rp.wts pr l)).getD i default).id] := by
  unfold Rp.tp
  rw [List.take_succ_eq_append_getElem h, List.map_append, getD_at h]
  rfl
set_option maxHeartbeats 4000000 in
theorem v_top (l : List Fl) (pr : List Int) (many : Int) (hp : pr.length ≤ 9223372036854775807) : V.FnR Try.prog 10 [.arr 10 l.length (ga encF l), .arr 1 pr.length (ga e1 pr)] [.one (.ref 0), .one (.ref 1), .one (.val (.int .i64 many))] (.tup [.one (.ref 2), .one (.val (.int .i64 (Rp.tE l pr many)))]) [.row 3 1 (Rp.tV l pr many).length (ga e1 (Rp.tV l pr many))] := by
  have c1 := v_fchecks l
  have c2 := v_prices pr hp
  by_cases h1 : F.checks l = 0
  · rw [h1] at c1
    by_cases h2 : P.chks pr = 0
    · rw [h2] at c2
      by_cases h3 : 0 ≤ many ∧ many ≤ 60
      · have e := Rp.tE_4 h1 h2 h3
        rw [Rp.tV_yes e, e]
        have n60 := F.checks_len (l := l) (by omega)
        have ok := Pn.all_ok h1
        obtain ⟨hp20, _⟩ := P.chks_ok h2
        refine V.FnR.mk_ V.Tok V.mixed Try.func10 rfl Try.ntmps10 (by kernel_rfl) rfl rfl rfl rfl ?_
        repeat' ((conv => whnf); first | (refine V.NIf.yes ?_ ?_; · (decide; done)) | (refine V.NIf.no ?_ ?_; · (decide; done)) | (refine V.NIf.yes ?_ ?_; · (omega; done)) | (refine V.NIf.no ?_ ?_; · (omega; done)) | refine V.NCond.mk ?_ | refine V.NPick.l ?_ | refine V.NIf.not_ ?_ | refine V.NIf.dec_ ?_ | refine V.a4 ?_ | refine V.a5 ?_ | refine V.NIf.mk (fun _ => ?_) (fun _ => ?_) | refine V.a7 ?_ | refine V.a8 ?_ | refine V.a9 ?_ | refine V.NBoth.mk ?_ ?_ | refine V.b1 ?_ | refine V.b2 ?_ | refine V.NTF.dec ?_ | refine V.b3 ?_ | refine V.b4 ?_ | ((first | refine V.Fn.k (c1) [0] rfl ?_ ?_ | refine V.Fn.q (c1) [0] rfl ?_ ?_ | refine V.Fn.a (c1) [0] rfl ?_ ?_); · exact V.D_) | ((first | refine V.Fn.k (c2) [1] rfl ?_ ?_ | refine V.Fn.q (c2) [1] rfl ?_ ?_ | refine V.Fn.a (c2) [1] rfl ?_ ?_); · exact V.D_) | (refine V.NCall.inl (f := 32) V.Tok V.mixed Try.func32 rfl Try.ntmps32 (by kernel_rfl) rfl ?_) | (refine V.NRange.inl V.Tok V.mixed Try.func58 rfl Try.ntmps58 (by kernel_rfl) [4, 9] [4] ?_; (conv => whnf); refine V.NIs.mk rfl ?_; (conv => whnf); intro L hL) | (refine V.NDraw.any (by kernel_rfl) ?_) | fail)
        all_goals (conv => whnf)
        have wl := fun k => Rp.wts_len pr (l.take k)
        refine V.NLoop.auto (fun (k : Nat) => [(7, .one (.val (.int .i64 k)))]) (fun (k : Nat) => [(8, .row 68 2 (Rp.wts pr (l.take k)).length (ga encW (Rp.wts pr (l.take k)))), (5, .box 64 [.ref 8])]) [] [] (fun (k : Nat) => l.length - k) (fun (k : Nat) => k ≤ l.length) 0 (Nat.zero_le _) V.S_ V.S_ (fun _ => ⟨rfl, rfl⟩) ?_; (conv => whnf); refine ⟨⟨rfl, rfl⟩, ?_⟩
        rintro k hk
        have wk := wl k
        rw [List.length_take] at wk
        by_cases hlt : k < l.length
        · have o := ok _ (getD_mem hlt)
          have ob := F.ok_bounds o
          have hpa := (id o).1.2.2.2.2.1
          have sn := Rp.wts_snoc (pr := pr) hlt
          have cc := v_cost (F.left (l.getD k default)) (pr.getD ((l.getD k default).pa - 1).toNat default)
          obtain ⟨e1', e2'⟩ := P.part_cost (u := F.left (l.getD k default)) (p := pr.getD ((l.getD k default).pa - 1).toNat default) (by omega) (P.pr_ok h2 hpa)
          rw [e1', e2'] at cc
          have y1 : 0 < F.left (l.getD k default) → Rp.wts pr (l.take (k + 1)) = Rp.wts pr (l.take k) ++ [⟨(l.getD k default).id, P.cost (F.left (l.getD k default)) (pr.getD ((l.getD k default).pa - 1).toNat default)⟩] := fun q => sn.trans (by rw [if_pos q]; rfl)
          have y2 : ¬ 0 < F.left (l.getD k default) → Rp.wts pr (l.take (k + 1)) = Rp.wts pr (l.take k) := fun q => sn.trans (by rw [if_neg q, List.append_nil])
          clear sn e1' e2' ok wl c1 c2
          generalize P.cost (F.left (l.getD k default)) (pr.getD ((l.getD k default).pa - 1).toNat default) = C at *
          repeat' ((conv => whnf); first | refine V.NCond.mk ?_ | refine V.NPick.l ?_ | refine V.NIf.not_ ?_ | refine V.NIf.dec_ ?_ | refine V.a4 ?_ | refine V.a5 ?_ | refine V.NIf.mk (fun _ => ?_) (fun _ => ?_) | refine V.a7 ?_ | refine V.a8 ?_ | refine V.a9 ?_ | refine V.NBoth.mk ?_ ?_ | refine V.b1 ?_ | refine V.b2 ?_ | refine V.NTF.dec ?_ | refine V.b3 ?_ | refine V.b4 ?_ | (refine NIdx.mk ⟨k, rfl, by omega, ?_⟩) | (refine NIdx.mk ⟨((l.getD k default).pa - 1).toNat, by omega, by omega, ?_⟩) | (first | refine V.Fn.k0 (v_fleft _ o) rfl ?_ | refine V.Fn.q0 (v_fleft _ o) rfl ?_ | refine V.Fn.a0 (v_fleft _ o) rfl ?_) | (refine V.NYield.mk_ V.Tok V.mixed hL rfl rfl ?_) | (first | refine V.Fn.k0 (cc) rfl ?_ | refine V.Fn.q0 (cc) rfl ?_ | refine V.Fn.a0 (cc) rfl ?_) | (refine NApp.one (en := encW) (l := Rp.wts pr (l.take k)) (x := ⟨(l.getD k default).id, C⟩) (by simp; omega) (by simp; omega) ?_) | (refine V.NDraw.any (by kernel_rfl) ?_) | fail)
          all_goals (conv => whnf)
          all_goals first
            | exact V.NBack.at_ (k + 1) [] (by omega) (by omega) V.S_ rfl ⟨ObLe.as_ (y2 (by omega)), rfl, trivial⟩ V.S_ V.S_
            | exact V.NBack.at_ (k + 1) [(8, 11)] (by omega) (by omega) V.S_ rfl ⟨ObLe.as_ (y1 (by omega)), rfl, trivial⟩ V.S_ V.S_
            | exact V.NBack.at_ (k + 1) [(8, 10)] (by omega) (by omega) V.S_ rfl ⟨ObLe.as_ (y1 (by omega)), rfl, trivial⟩ V.S_ V.S_
            | exact V.NBack.at_ (k + 1) [(8, 12)] (by omega) (by omega) V.S_ rfl ⟨ObLe.as_ (y1 (by omega)), rfl, trivial⟩ V.S_ V.S_
            | trace_state
        · obtain rfl : k = l.length := by omega
          rw [List.take_length] at *
          have tl := Rp.tp_len pr l
          have sl : (Rp.srt (Rp.wts pr l)).length = (Rp.wts pr l).length := Rp.srt_len _
          have hM : (if ((Rp.wts pr l).length : Int) < many then ((Rp.wts pr l).length : Int) else many) = (((min many.toNat (Rp.wts pr l).length : Nat)) : Int) := by split <;> omega
          have hM2 : min many.toNat (Rp.wts pr l).length ≤ (Rp.wts pr l).length := Nat.min_le_right _ _
          have eM : ((Rp.tp pr l).take many.toNat).map (·.id) = ((Rp.tp pr l).take (min many.toNat (Rp.wts pr l).length)).map (·.id) := by
            rw [← show (Rp.tp pr l).length = (Rp.wts pr l).length from sl, List.take_eq_take_min]
          rw [eM]
          generalize hMM : min many.toNat (Rp.wts pr l).length = M at *
          clear hMM
          repeat' ((conv => whnf); first | (refine V.NIf.yes ?_ ?_; · (omega; done)) | (refine V.NIf.no ?_ ?_; · (omega; done)) | refine V.NCond.mk ?_ | refine V.NPick.l ?_ | refine V.NIf.not_ ?_ | refine V.NIf.dec_ ?_ | refine V.a4 ?_ | refine V.a5 ?_ | refine V.NIf.mk (fun _ => ?_) (fun _ => ?_) | refine V.a7 ?_ | refine V.a8 ?_ | refine V.a9 ?_ | refine V.NBoth.mk ?_ ?_ | refine V.b1 ?_ | refine V.b2 ?_ | refine V.NTF.dec ?_ | refine V.b3 ?_ | refine V.b4 ?_ | (refine V.NCall.sortW 8 (Rp.wts pr l) rfl (fun _ _ => rfl) (by omega) ?_) | (refine NCut.mk ⟨0, M, rfl, hM, by omega, by omega, ?_⟩) | (refine V.NDraw.any (by kernel_rfl) ?_) | fail)
          all_goals (conv => whnf)
          all_goals refine V.NLoop.auto (fun (i : Nat) => [(68, .one (.val (.int .i64 i))), (14, .one (.ref 9))]) (fun (i : Nat) => [(9, .row 3 1 (((Rp.tp pr l).take i).map (·.id)).length (ga e1 (((Rp.tp pr l).take i).map (·.id))))]) [] [] (fun (i : Nat) => M - i) (fun (i : Nat) => i ≤ M) 0 (Nat.zero_le _) V.S_ V.S_ (fun _ => ⟨rfl, rfl⟩) ?_; (conv => whnf); refine ⟨⟨rfl, rfl⟩, ?_⟩
          all_goals rintro i hi
          all_goals (have tlen : (Rp.tp pr l).length = (Rp.wts pr l).length := sl)
          all_goals (have tkl : (((Rp.tp pr l).take i).map (·.id)).length = i := by rw [List.length_map, List.length_take]; omega)
          all_goals by_cases hlt2 : i < M
          all_goals try (have tk := Rp.top_snoc (pr := pr) (l := l) (i := i) (by omega))
          · repeat' ((conv => whnf); first | refine V.NCond.mk ?_ | refine V.NPick.l ?_ | refine V.NIf.not_ ?_ | refine V.NIf.dec_ ?_ | refine V.a4 ?_ | refine V.a5 ?_ | refine V.NIf.mk (fun _ => ?_) (fun _ => ?_) | refine V.a7 ?_ | refine V.a8 ?_ | refine V.a9 ?_ | refine V.NBoth.mk ?_ ?_ | refine V.b1 ?_ | refine V.b2 ?_ | refine V.NTF.dec ?_ | refine V.b3 ?_ | refine V.b4 ?_ | (refine NIdx.mk ⟨i, by omega, by omega, ?_⟩) | (simp only [Nat.zero_add]) | (refine NApp.one (en := e1) (l := ((Rp.tp pr l).take i).map (·.id)) (x := ((Rp.srt (Rp.wts pr l)).getD i default).id) (by simp; omega) (by simp; omega) ?_) | (refine V.NDraw.any (by kernel_rfl) ?_) | fail)
            all_goals (conv => whnf)
            all_goals exact V.NBack.at_ (i + 1) [(9, 13)] (by omega) (by omega) V.S_ rfl ⟨ObLe.as_ tk, trivial⟩ V.S_ V.S_
          · obtain rfl : i = M := by omega
            repeat' ((conv => whnf); first | (refine V.NIf.no ?_ ?_; · (omega; done)) | refine V.NCond.mk ?_ | refine V.NPick.l ?_ | refine V.NIf.not_ ?_ | refine V.NIf.dec_ ?_ | refine V.a4 ?_ | refine V.a5 ?_ | refine V.NIf.mk (fun _ => ?_) (fun _ => ?_) | refine V.a7 ?_ | refine V.a8 ?_ | refine V.a9 ?_ | refine V.NBoth.mk ?_ ?_ | refine V.b1 ?_ | refine V.b2 ?_ | refine V.NTF.dec ?_ | refine V.b3 ?_ | refine V.b4 ?_ | (refine V.NDraw.any (by kernel_rfl) ?_) | fail)
            all_goals (conv => whnf)
            all_goals (first | exact V.erf 0 | exact V.erf 1 | exact V.erf 2 | exact V.erf 3 | exact V.erf 4 | exact V.erf 5 | exact V.erf 6 | exact V.erf 7 | exact V.erf 8 | exact V.erf 9 | exact V.erf 10 | exact V.erf 11 | exact V.erf 12 | exact V.erf 13 | exact V.erf 14 | exact V.erf 15 | exact V.erf 16 | exact V.erf 17)
      · have e := Rp.tE_3 h1 h2 h3
        rw [Rp.tV_no (by rw [e]; decide), e]
        refine V.FnR.mk_ V.Tok V.mixed Try.func10 rfl Try.ntmps10 (by kernel_rfl) rfl rfl rfl rfl ?_
        repeat' ((conv => whnf); first | (refine V.NIf.yes ?_ ?_; · (decide; done)) | (refine V.NIf.no ?_ ?_; · (decide; done)) | (refine V.NIf.yes ?_ ?_; · (omega; done)) | (refine V.NIf.no ?_ ?_; · (omega; done)) | refine V.NCond.mk ?_ | refine V.NPick.l ?_ | refine V.NIf.not_ ?_ | refine V.NIf.dec_ ?_ | refine V.a4 ?_ | refine V.a5 ?_ | refine V.NIf.mk (fun _ => ?_) (fun _ => ?_) | refine V.a7 ?_ | refine V.a8 ?_ | refine V.a9 ?_ | refine V.NBoth.mk ?_ ?_ | refine V.b1 ?_ | refine V.b2 ?_ | refine V.NTF.dec ?_ | refine V.b3 ?_ | refine V.b4 ?_ | ((first | refine V.Fn.k (c1) [0] rfl ?_ ?_ | refine V.Fn.q (c1) [0] rfl ?_ ?_ | refine V.Fn.a (c1) [0] rfl ?_ ?_); · exact V.D_) | ((first | refine V.Fn.k (c2) [1] rfl ?_ ?_ | refine V.Fn.q (c2) [1] rfl ?_ ?_ | refine V.Fn.a (c2) [1] rfl ?_ ?_); · exact V.D_) | (refine V.NDraw.any (by kernel_rfl) ?_) | fail)
        all_goals (conv => whnf)
        all_goals (first | exact V.er 0 | exact V.er 1 | exact V.er 2 | exact V.er 3 | exact V.er 4 | exact V.er 5 | exact V.er 6 | exact V.er 7 | exact V.er 8 | exact V.er 9 | exact V.er 10 | exact V.er 11 | exact V.er 12 | exact V.er 13 | exact V.er 14 | exact V.er 15 | exact V.er 16 | exact V.er 17)
    · have e := Rp.tE_2 (many := many) h1 h2
      rw [Rp.tV_no (by rw [e]; exact h2), e]
      refine V.FnR.mk_ V.Tok V.mixed Try.func10 rfl Try.ntmps10 (by kernel_rfl) rfl rfl rfl rfl ?_
      repeat' ((conv => whnf); first | (refine V.NIf.yes ?_ ?_; · (decide; done)) | (refine V.NIf.no ?_ ?_; · (decide; done)) | (refine V.NIf.yes ?_ ?_; · (exact h2; done)) | (refine V.NIf.no ?_ ?_; · (exact h2; done)) | refine V.NCond.mk ?_ | refine V.NPick.l ?_ | refine V.NIf.not_ ?_ | refine V.NIf.dec_ ?_ | refine V.a4 ?_ | refine V.a5 ?_ | refine V.NIf.mk (fun _ => ?_) (fun _ => ?_) | refine V.a7 ?_ | refine V.a8 ?_ | refine V.a9 ?_ | refine V.NBoth.mk ?_ ?_ | refine V.b1 ?_ | refine V.b2 ?_ | refine V.NTF.dec ?_ | refine V.b3 ?_ | refine V.b4 ?_ | ((first | refine V.Fn.k (c1) [0] rfl ?_ ?_ | refine V.Fn.q (c1) [0] rfl ?_ ?_ | refine V.Fn.a (c1) [0] rfl ?_ ?_); · exact V.D_) | ((first | refine V.Fn.k (c2) [1] rfl ?_ ?_ | refine V.Fn.q (c2) [1] rfl ?_ ?_ | refine V.Fn.a (c2) [1] rfl ?_ ?_); · exact V.D_) | (refine V.NDraw.any (by kernel_rfl) ?_) | fail)
      all_goals (conv => whnf)
      all_goals (first | exact V.er 0 | exact V.er 1 | exact V.er 2 | exact V.er 3 | exact V.er 4 | exact V.er 5 | exact V.er 6 | exact V.er 7 | exact V.er 8 | exact V.er 9 | exact V.er 10 | exact V.er 11 | exact V.er 12 | exact V.er 13 | exact V.er 14 | exact V.er 15 | exact V.er 16 | exact V.er 17)
  · have e := Rp.tE_1 (pr := pr) (many := many) h1
    rw [Rp.tV_no (by rw [e]; exact h1), e]
    refine V.FnR.mk_ V.Tok V.mixed Try.func10 rfl Try.ntmps10 (by kernel_rfl) rfl rfl rfl rfl ?_
    repeat' ((conv => whnf); first | (refine V.NIf.yes ?_ ?_; · (decide; done)) | (refine V.NIf.no ?_ ?_; · (decide; done)) | (refine V.NIf.yes ?_ ?_; · (exact h1; done)) | (refine V.NIf.no ?_ ?_; · (exact h1; done)) | refine V.NCond.mk ?_ | refine V.NPick.l ?_ | refine V.NIf.not_ ?_ | refine V.NIf.dec_ ?_ | refine V.a4 ?_ | refine V.a5 ?_ | refine V.NIf.mk (fun _ => ?_) (fun _ => ?_) | refine V.a7 ?_ | refine V.a8 ?_ | refine V.a9 ?_ | refine V.NBoth.mk ?_ ?_ | refine V.b1 ?_ | refine V.b2 ?_ | refine V.NTF.dec ?_ | refine V.b3 ?_ | refine V.b4 ?_ | ((first | refine V.Fn.k (c1) [0] rfl ?_ ?_ | refine V.Fn.q (c1) [0] rfl ?_ ?_ | refine V.Fn.a (c1) [0] rfl ?_ ?_); · exact V.D_) | (refine V.NDraw.any (by kernel_rfl) ?_) | fail)
    all_goals (conv => whnf)
    all_goals (first | exact V.er 0 | exact V.er 1 | exact V.er 2 | exact V.er 3 | exact V.er 4 | exact V.er 5 | exact V.er 6 | exact V.er 7 | exact V.er 8 | exact V.er 9 | exact V.er 10 | exact V.er 11 | exact V.er 12 | exact V.er 13 | exact V.er 14 | exact V.er 15 | exact V.er 16 | exact V.er 17)
end Go.Proofs.Ytdehibmofmfkbaa

namespace Go.Proofs.Ytdehibmofmfkbaa
namespace Rp
theorem s_set : ∀ {l : List Int} {i : Nat} (d : Int), i < l.length → M.sum (l.set i (l.getD i default + d)) = M.sum l + d
  | [], _, _, h => absurd h (Nat.not_lt_zero _)
  | a :: r, 0, d, _ => by simp [M.sum]; omega
  | a :: r, i + 1, d, h => by
    have := s_set (l := r) (i := i) d (by simpa using h)
    rw [List.set_cons_succ, M.sum, M.sum]
    simp only [List.getD_cons_succ] at this ⊢
    omega
theorem s_rep (n : Nat) : M.sum (List.replicate n 0) = 0 := by
  induction n with
  | zero => rfl
  | succ n ih => rw [List.replicate_succ, M.sum, ih]; rfl
theorem pts_sum {g : Fl → Int} : ∀ {l : List Fl}, (∀ f ∈ l, 0 ≤ g f ∧ g f ≤ 30) → M.sum (pts g l) = M.sum (l.map F.left) := by
  intro l h
  have key : ∀ k, k ≤ l.length → M.sum (pts g (l.take k)) = M.sum ((l.take k).map F.left) := fun k => by
    induction k with
    | zero => intro _; rw [List.take_zero, pts_nil, s_rep]; rfl
    | succ k ih =>
      intro hk
      have b := h _ (getD_mem (show k < l.length by omega))
      rw [pts_snoc (by omega) b, s_set _ (by rw [pts_len]; omega), ih (by omega), List.take_succ_eq_append_getElem (by omega), List.map_append, M.sum_append, ← getD_at (by omega)]
      simp [M.sum]
  have := key l.length (Nat.le_refl _)
  rwa [List.take_length] at this
def lat (td : Int) (l : List Fl) : Int := M.sum (l.map fun f => if Lt_ td f then 1 else 0)
theorem lat_snoc {td : Int} {l : List Fl} {k : Nat} (h : k < l.length) : lat td (l.take (k + 1)) = lat td (l.take k) + if Lt_ td (l.getD k default) then 1 else 0 := by
  unfold lat
  rw [List.take_succ_eq_append_getElem h, List.map_append, M.sum_append, ← getD_at h]
  simp [M.sum]
theorem lat_bd (td : Int) (l : List Fl) : 0 ≤ lat td l ∧ lat td l ≤ l.length := by
  unfold lat
  induction l with
  | nil => simp [M.sum]
  | cons f r ih => rw [List.map_cons, M.sum, List.length_cons]; split <;> omega
theorem ag_sum {c : Cl} {td : Int} {b : List Int} {l : List Fl} (hb : b.Pairwise (· < ·)) : M.sum (ag c td b l) = lat td l := by
  have key : ∀ k, k ≤ l.length → M.sum (ag c td b (l.take k)) = lat td (l.take k) := fun k => by
    induction k with
    | zero => intro _; rw [List.take_zero]; exact s_rep _
    | succ k ih =>
      intro hk
      rw [ag_snoc (by omega), lat_snoc (by omega), ← ih (by omega)]
      unfold agS
      split
      · have := pc_le hb (Ca.cnt c (l.getD k default).day td)
        exact s_set 1 (by rw [ag_len]; omega)
      · omega
  have := key l.length (Nat.le_refl _)
  rwa [List.take_length] at this
def lft (l : List Fl) : Int := M.sum (l.map F.left)
theorem lft_snoc {l : List Fl} {k : Nat} (h : k < l.length) : lft (l.take (k + 1)) = lft (l.take k) + F.left (l.getD k default) := by
  unfold lft; rw [List.take_succ_eq_append_getElem h, List.map_append, M.sum_append, ← getD_at h]; simp [M.sum]
theorem lft_bd {l : List Fl} (h : ∀ f ∈ l, F.Ok f) : 0 ≤ lft l ∧ lft l ≤ 1073741824 * l.length := by
  unfold lft
  induction l with
  | nil => simp [M.sum]
  | cons f r ih =>
    have a := ih fun x hx => h x (by simp [hx])
    have b := F.ok_bounds (h f (by simp))
    rw [List.map_cons, M.sum, List.length_cons]
    omega
theorem s_pos : ∀ {l : List Int} (m : Int), 0 ≤ m → (∀ x ∈ l, 0 ≤ x ∧ x ≤ m) → ∀ k, 0 ≤ M.sum (l.take k) ∧ M.sum (l.take k) ≤ m * l.length
  | [], m, _, _, k => by simp [M.sum]
  | a :: r, m, h0, h, 0 => by
    simp only [List.take_zero, M.sum]
    exact ⟨Int.le_refl _, Int.mul_nonneg h0 (by omega)⟩
  | a :: r, m, h0, h, k + 1 => by
    have ih := s_pos m h0 (fun x hx => h x (by simp [hx])) k (l := r)
    have b := h a (by simp)
    rw [List.take_succ_cons, M.sum, List.length_cons]
    have e : m * ((r.length + 1 : Nat) : Int) = m * r.length + m := by rw [Int.natCast_add, Int.mul_add]; omega
    omega
def less (b : List Int) (at_ : Nat) : List Int := b.take at_ ++ b.drop (at_ + 1)
theorem less_len {b : List Int} {p : Nat} (h : p < b.length) : (less b p).length = b.length - 1 := by
  unfold less; rw [List.length_append, List.length_take, List.length_drop]; omega
theorem less_at {b : List Int} {p : Nat} (h : p < b.length) (k : Nat) (hk : k < b.length - 1) : (less b p).getD k default = b.getD (if k < p then k else k + 1) default := by
  have hl := less_len h
  rw [getD_at (by omega)]
  unfold less
  by_cases q : k < p
  · rw [if_pos q, getD_at (by omega), List.getElem_append_left (by rw [List.length_take]; omega), List.getElem_take]
  · rw [if_neg q, getD_at (by omega), List.getElem_append_right (by rw [List.length_take]; omega)]
    simp only [List.getElem_drop, List.length_take]
    congr 1
    omega
theorem less_up {b : List Int} {p : Nat} (h : b.Pairwise (· < ·)) : (less b p).Pairwise (· < ·) := by
  refine h.sublist ?_
  have e : (b.take p ++ b.drop (p + 1)).Sublist (b.take p ++ b.drop p) := by
    refine List.Sublist.append (List.Sublist.refl _) ?_
    rw [← List.drop_drop]
    exact List.drop_sublist _ _
  rw [List.take_append_drop] at e
  exact e
theorem less_edges {b : List Int} {p : Nat} (h : Edges b) : Edges (less b p) := by
  refine ⟨?_, fun x hx => ?_, less_up h.up⟩
  · have := h.le
    unfold less; rw [List.length_append, List.length_take, List.length_drop]; omega
  · unfold less at hx
    rcases List.mem_append.1 hx with q | q
    · exact h.bd x (List.mem_of_mem_take q)
    · exact h.bd x (List.mem_of_mem_drop q)
theorem less_pc {b : List Int} {p : Nat} (h : b.Pairwise (· < ·)) (hp : p < b.length) (n : Int) : pc (less b p) n = if pc b n ≤ p then pc b n else pc b n - 1 := by
  obtain ⟨a1, a2⟩ := pc_spec h n
  have hl := pc_le h n
  have ll := less_len hp
  split
  · rename_i q
    refine pc_is (by omega) (fun k hk => ?_) (fun k h1 h2 => ?_)
    · rw [less_at hp k (by omega), if_pos (by omega)]; exact a1 k hk
    · rw [less_at hp k (by omega)]
      split
      · exact a2 k h1 (by omega)
      · exact a2 (k + 1) (by omega) (by omega)
  · rename_i q
    refine pc_is (by omega) (fun k hk => ?_) (fun k h1 h2 => ?_)
    · rw [less_at hp k (by omega)]
      split
      · exact a1 k (by omega)
      · exact a1 (k + 1) (by omega)
    · rw [less_at hp k (by omega), if_neg (by omega)]
      exact a2 (k + 1) (by omega) (by omega)
def mrg (h : List Int) (p i : Nat) : Int := if i < p then h.getD i default else if i = p then h.getD p default + h.getD (p + 1) default else h.getD (i + 1) default
theorem bump_at {h : List Int} {p i : Nat} (hi : i < h.length) : (bump h p).getD i default = h.getD i default + if i = p then 1 else 0 := by
  unfold bump
  rw [getD_at (by rw [List.length_set]; exact hi), List.getElem_set]
  by_cases e : p = i
  · subst e; rw [if_pos rfl, if_pos rfl]
  · rw [if_neg e, if_neg (by omega), getD_at hi]; omega
theorem ag_less {c : Cl} {td : Int} {b : List Int} {l : List Fl} {p : Nat} (h : b.Pairwise (· < ·)) (hp : p < b.length) : ∀ i, i < b.length → (ag c td (less b p) l).getD i default = mrg (ag c td b l) p i := by
  have key : ∀ k, k ≤ l.length → ∀ i, i < b.length → (ag c td (less b p) (l.take k)).getD i default = mrg (ag c td b (l.take k)) p i := fun k => by
    induction k with
    | zero =>
      intro _ i hi
      have r : ∀ m j, j < m → (List.replicate m (0 : Int)).getD j default = 0 := fun m j hj => by
        rw [getD_at (by simpa using hj)]; simp
      have e : (less b p).length = b.length - 1 := less_len hp
      unfold mrg
      show (List.replicate ((less b p).length + 1) (0 : Int)).getD i default = if i < p then (List.replicate (b.length + 1) (0 : Int)).getD i default else if i = p then (List.replicate (b.length + 1) (0 : Int)).getD p default + (List.replicate (b.length + 1) (0 : Int)).getD (p + 1) default else (List.replicate (b.length + 1) (0 : Int)).getD (i + 1) default
      rw [r _ _ (by omega), r _ _ (by omega), r _ _ (by omega), r _ _ (by omega), r _ _ (by omega)]
      (repeat' split) <;> rfl
    | succ k ih =>
      intro hk i hi
      have ih := ih (by omega) i hi
      rw [ag_snoc (by omega), ag_snoc (by omega)]
      unfold agS
      split
      · have l1 := ag_len c td (less b p) (l.take k)
        have l2 := ag_len c td b (l.take k)
        rw [less_len hp] at l1
        have pl := less_pc h hp (Ca.cnt c (l.getD k default).day td)
        have pb := pc_le h (Ca.cnt c (l.getD k default).day td)
        rw [bump_at (by omega), ih, pl]
        generalize pc b (Ca.cnt c (l.getD k default).day td) = P at *
        unfold mrg
        by_cases q1 : i < p
        · rw [if_pos q1, if_pos q1, bump_at (by omega)]
          congr 1
          split <;> split <;> first | rfl | omega
        · by_cases q2 : i = p
          · subst q2
            rw [if_neg q1, if_pos rfl, if_neg q1, if_pos rfl, bump_at (by omega), bump_at (by omega)]
            split <;> (repeat' split) <;> omega
          · rw [if_neg q1, if_neg q2, if_neg q1, if_neg q2, bump_at (by omega)]
            congr 1
            split <;> split <;> first | rfl | omega
      · exact ih
  have := key l.length (Nat.le_refl _)
  rwa [List.take_length] at this
theorem tp_at {pr : List Int} {l : List Fl} (nd : (l.map (·.id)).Nodup) {i : Nat} (hi : i < (tp pr l).length) : ∃ k : Nat, k < l.length ∧ F.idx ((tp pr l).getD i default).id l 0 = k ∧ 0 < F.left (l.getD k default) ∧ wt pr (l.getD k default) = (tp pr l).getD i default := by
  obtain ⟨f, hf, h0, e⟩ := mem_tp.1 (getD_mem hi)
  obtain ⟨k, hk, rfl⟩ := List.getElem_of_mem hf
  refine ⟨k, hk, ?_, by rw [getD_at hk]; exact h0, by rw [getD_at hk]; exact e⟩
  have := F.idx_at (l := l) (i := k) (k := 0) hk nd
  rw [← e]
  show F.idx (l[k]).id l 0 = _
  rw [this]
  simp
theorem tp_down {pr : List Int} {l : List Fl} {i j : Nat} (hij : i ≤ j) (hj : j < (tp pr l).length) : ((tp pr l).getD j default).wo ≤ ((tp pr l).getD i default).wo := by
  by_cases e : i = j
  · subst e; exact Int.le_refl _
  · have := List.pairwise_iff_getElem.1 (srt_up (wts pr l)) i j (by unfold tp at hj; omega) hj (by omega)
    rw [getD_at hj, getD_at (by omega)]
    unfold tp
    unfold Lt at this
    omega
theorem tp_out {pr : List Int} {l : List Fl} {m : Nat} {f : Fl} (hf : f ∈ l) (o : 0 < F.left f) (h : ¬ ∃ j, j < m ∧ j < (tp pr l).length ∧ ((tp pr l).getD j default).id = f.id) : m < (tp pr l).length ∧ (1 ≤ m → P.cost (F.left f) (P.pr pr f.pa) ≤ ((tp pr l).getD (m - 1) default).wo) := by
  obtain ⟨p, hp, e⟩ := List.getElem_of_mem (mem_tp.2 ⟨f, hf, o, rfl⟩ : wt pr f ∈ tp pr l)
  have hm : m ≤ p := by
    apply Classical.byContradiction
    intro q
    exact h ⟨p, by omega, hp, by rw [getD_at hp, e]; rfl⟩
  refine ⟨by omega, fun m1 => ?_⟩
  have := tp_down (pr := pr) (l := l) (i := m - 1) (j := p) (by omega) hp
  rw [getD_at hp, e] at this
  exact this
theorem whole_iff {l : List Fl} (h : ∀ f ∈ l, F.Ok f) : dn l = al l ↔ ∀ f ∈ l, f.de = f.un := by
  unfold dn al
  induction l with
  | nil => simp
  | cons f r ih =>
    have a := da_bd fun x hx => h x (List.mem_cons_of_mem _ hx)
    have ih := ih fun x hx => h x (List.mem_cons_of_mem _ hx)
    obtain ⟨⟨_, _, _, _, _, _, b1, b2⟩, _, ⟨b3, b4⟩, _⟩ := h f (by simp)
    unfold dn al at a
    simp only [List.map_cons, M.sum, List.mem_cons]
    constructor
    · intro q x hx
      rcases hx with rfl | hx
      · omega
      · exact ih.1 (by omega) x hx
    · intro q
      have q1 := q f (.inl rfl)
      have q2 := ih.2 fun x hx => q x (.inr hx)
      omega
theorem rate_whole {l : List Fl} (h : ∀ f ∈ l, F.Ok f) (n : 0 < l.length) : dn l * 10000 / al l = 10000 ↔ ∀ f ∈ l, f.de = f.un := by
  obtain ⟨a, b, c, d⟩ := da_bd h
  have p : 0 < al l := by omega
  rw [← whole_iff h]
  constructor
  · intro q
    have := Int.mul_ediv_self_le (x := dn l * 10000) (k := al l) (by omega)
    rw [q] at this
    omega
  · intro q
    rw [q, Int.mul_comm]
    exact Int.mul_ediv_cancel _ (by omega)
theorem sum_set2 {g : Fl → Int} {l : List Fl} {i : Nat} (hi : i < l.length) (f : Fl) : M.sum ((l.set i f).map g) = M.sum (l.map g) - g (l.getD i default) + g f := by
  induction l generalizing i with
  | nil => exact absurd hi (Nat.not_lt_zero _)
  | cons a r ih =>
    cases i with
    | zero => simp [M.sum]; omega
    | succ i =>
      have := ih (i := i) (by simpa using hi)
      simp only [List.set_cons_succ, List.map_cons, M.sum, List.getD_cons_succ] at this ⊢
      omega
theorem rate_more {l : List Fl} {i : Nat} {u : Int} (h : F.checks l = 0) (hi : i < l.length) (g : F.less (l.getD i default) u = 0) :
    F.checks (l.set i (F.addDe (l.getD i default) u)) = 0 ∧ dn l * 10000 / al l ≤ dn (l.set i (F.addDe (l.getD i default) u)) * 10000 / al (l.set i (F.addDe (l.getD i default) u)) := by
  obtain ⟨a1, a2, a3⟩ := K.checks_all h
  obtain ⟨_, u1, _⟩ := F.less_ok g
  obtain ⟨o, _⟩ := F.deliver_ok g
  have e1 : dn (l.set i (F.addDe (l.getD i default) u)) = dn l + u := by
    unfold dn; rw [sum_set2 hi]; show _ - _ + ((l.getD i default).de + u) = _; omega
  have e2 : al (l.set i (F.addDe (l.getD i default) u)) = al l := by
    unfold al; rw [sum_set2 hi]; show _ - _ + (l.getD i default).un = _; omega
  have p := (da_bd a2)
  refine ⟨?_, ?_⟩
  · refine K.checks_of (by rw [List.length_set]; exact a1) (fun f hf => ?_) ?_
    · rcases List.mem_or_eq_of_mem_set hf with q | q
      · exact a2 f q
      · rw [q]; exact o
    · have : (l.set i (F.addDe (l.getD i default) u)).map (·.id) = l.map (·.id) := by
        rw [List.map_set]
        have e : (F.addDe (l.getD i default) u).id = (l.map (·.id))[i]'(by simpa using hi) := by rw [List.getElem_map, ← getD_at hi]; rfl
        rw [e]
        exact List.set_getElem_self _
      rw [this]; exact a3
  · rw [e1, e2]
    exact Int.ediv_le_ediv (by omega) (by omega)
end Rp
end Go.Proofs.Ytdehibmofmfkbaa

namespace Go.Proofs.Ytdehibmofmfkbaa
open Go Go.RowKit V
theorem v_rcostR (a b : Int) (ha : 0 ≤ a ∧ a ≤ 1073741824) (hb : P.Ok b) : V.Fn Try.prog 52 [] [.one (.val (.int .i64 a)), .one (.val (.int .i64 b)), .one (.val (.int .i64 10000))] (.tuple #[.int .i64 (P.cost a b), .int .i64 (M.poR a b 10000)]) := by
  have hb' : 0 ≤ b ∧ b ≤ 1099511627776 := hb
  have s := v_partOf a b 10000 (by omega) hb' (by omega)
  have cb := P.cost_bd ha hb
  have ec : P.cost a b = a * b / 10000 := rfl
  rcases M.po_at (a := a) (b := b) (c := 10000) ha.1 hb'.1 (by omega) with ⟨_, k⟩ | ⟨e1, e2, _⟩
  · omega
  · rw [e1, ← ec] at s; exact s
theorem v_worth (f : Fl) (pr : List Int) (o : F.Ok f) (h2 : P.chks pr = 0) : V.Fn Try.prog 22 [.arr 1 pr.length (ga e1 pr)] [.agg [.val (.int .i64 f.id), .val (.int .i64 f.fr), .val (.int .i64 f.to), .val (.int .i64 f.cl), .val (.int .i64 f.pa), .val (.int .i64 f.day), .val (.int .i64 f.un), .val (.int .i64 f.de), .val (.int .i64 f.bo), .val (.int .i64 f.pd)], .one (.ref 0)] (.int .i64 (Rp.wt pr f).wo) := by
  have ob := F.ok_bounds o
  have hpa := (id o).1.2.2.2.2.1
  obtain ⟨hp20, _⟩ := P.chks_ok h2
  have c1 := v_rfopen f ⟨o.1, o.2.2.1⟩
  have c2 := v_rcostR (F.left f) (P.pr pr f.pa) (by omega) (P.pr_ok h2 hpa)
  rw [show (Rp.wt pr f).wo = P.cost (F.left f) (P.pr pr f.pa) from rfl]
  rw [show P.pr pr f.pa = pr.getD (f.pa - 1).toNat default from rfl] at *
  generalize P.cost (F.left f) (pr.getD (f.pa - 1).toNat default) = C at *
  refine V.Fn.mk_ V.Tok V.mixed Try.func22 rfl Try.ntmps22 (by kernel_rfl) rfl rfl ?_
  repeat' ((conv => whnf); first | refine V.NCond.mk ?_ | refine V.NPick.l ?_ | refine V.NIf.not_ ?_ | refine V.NIf.dec_ ?_ | refine V.a4 ?_ | refine V.a5 ?_ | refine V.NIf.mk (fun _ => ?_) (fun _ => ?_) | refine V.a7 ?_ | refine V.a8 ?_ | refine V.a9 ?_ | refine V.NBoth.mk ?_ ?_ | refine V.b1 ?_ | refine V.b2 ?_ | refine V.NTF.dec ?_ | refine V.b3 ?_ | refine V.b4 ?_ | (first | refine V.Fn.k0 (c1) rfl ?_ | refine V.Fn.q0 (c1) rfl ?_ | refine V.Fn.a0 (c1) rfl ?_) | (refine NIdx.mk ⟨(f.pa - 1).toNat, by omega, by omega, ?_⟩) | (first | refine V.Fn.k0 (c2) rfl ?_ | refine V.Fn.q0 (c2) rfl ?_ | refine V.Fn.a0 (c2) rfl ?_) | (refine V.NDraw.any (by kernel_rfl) ?_) | fail)
  all_goals (conv => whnf)
theorem Rp.ids_nd {l : List Fl} (h : F.checks l = 0) : (l.map (·.id)).Nodup := by
  unfold F.checks at h
  split at h
  · cases h
  · exact (F.ckFrom_ok h).2
def Rp.us (pr : List Int) (l : List Fl) (k : Nat) : List Bool := l.map fun f => decide (Rp.In pr l k f)
theorem Rp.us_0 (pr : List Int) (l : List Fl) : Rp.us pr l 0 = List.replicate l.length false := by
  unfold Rp.us
  rw [List.eq_replicate_iff]
  refine ⟨List.length_map _, fun b hb => ?_⟩
  obtain ⟨f, _, rfl⟩ := List.mem_map.1 hb
  exact decide_eq_false (Rp.in_0 pr l f)
theorem Rp.us_len (pr : List Int) (l : List Fl) (k : Nat) : (Rp.us pr l k).length = l.length := List.length_map _
theorem Rp.us_at {pr : List Int} {l : List Fl} {k i : Nat} (h : i < l.length) : (Rp.us pr l k).getD i default = decide (Rp.In pr l k (l.getD i default)) := by
  unfold Rp.us
  rw [getD_at (by rw [List.length_map]; exact h), List.getElem_map, getD_at h]
theorem Rp.us_set {pr : List Int} {l : List Fl} {k m : Nat} (nd : (l.map (·.id)).Nodup) (hk : k < (Rp.tp pr l).length) (hm : m < l.length) (u : 0 < F.left (l.getD m default)) (e : Rp.wt pr (l.getD m default) = (Rp.tp pr l).getD k default) : Rp.us pr l (k + 1) = (Rp.us pr l k).set m true := by
  refine List.ext_getElem (by rw [List.length_set, Rp.us_len, Rp.us_len]) fun i h1 h2 => ?_
  rw [Rp.us_len] at h1
  rw [List.getElem_set, ← getD_at (by rw [Rp.us_len]; exact h1), ← getD_at (by rw [Rp.us_len]; exact h1), Rp.us_at h1, Rp.us_at h1]
  have n := Rp.in_next nd hk hm u e h1
  by_cases q : m = i
  · rw [if_pos q]; exact decide_eq_true (n.2 (.inl q.symm))
  · rw [if_neg q, decide_eq_decide, n]
    exact ⟨fun z => z.resolve_left (fun y => q y.symm), .inr⟩
end Go.Proofs.Ytdehibmofmfkbaa

namespace Go.Proofs.Ytdehibmofmfkbaa
open Go Go.RowKit V
theorem Rp.lt_wt {pr : List Int} {f g : Fl} : Rp.Lt (Rp.wt pr f) (Rp.wt pr g) ↔ (Rp.wt pr g).wo < (Rp.wt pr f).wo ∨ ((Rp.wt pr f).wo = (Rp.wt pr g).wo ∧ f.id < g.id) := Iff.rfl
set_option maxHeartbeats 4000000 in
theorem v_rtop (l : List Fl) (pr : List Int) (many : Int) (h1 : F.checks l = 0) (h2 : P.chks pr = 0) (hm : 0 ≤ many ∧ many ≤ 60) : V.FnR Try.prog 18 [.arr 10 l.length (ga encF l), .arr 1 pr.length (ga e1 pr)] [.one (.ref 0), .one (.ref 1), .one (.val (.int .i64 many))] (.one (.ref 2)) [.row 3 1 (((Rp.tp pr l).take many.toNat).map (·.id)).length (ga e1 (((Rp.tp pr l).take many.toNat).map (·.id)))] := by
  have n60 := F.checks_len (l := l) (by omega)
  have ok := Pn.all_ok h1
  have nd := Rp.ids_nd h1
  refine V.FnR.mk_ V.Tok V.mixed Try.func18 rfl Try.ntmps18 (by kernel_rfl) rfl rfl rfl rfl ?_
  repeat' ((conv => whnf); first | refine V.NCond.mk ?_ | refine V.NPick.l ?_ | refine V.NIf.not_ ?_ | refine V.NIf.dec_ ?_ | refine V.a4 ?_ | refine V.a5 ?_ | refine V.NIf.mk (fun _ => ?_) (fun _ => ?_) | refine V.a7 ?_ | refine V.a8 ?_ | refine V.a9 ?_ | refine V.NBoth.mk ?_ ?_ | refine V.b1 ?_ | refine V.b2 ?_ | refine V.NTF.dec ?_ | refine V.b3 ?_ | refine V.b4 ?_ | (refine NMake.mk ⟨l.length, l.length, rfl, rfl, by omega, by omega, by first | omega | (simp; omega), ?_⟩) | (refine V.NDraw.any (by kernel_rfl) ?_) | fail)
  all_goals (conv => whnf)
  all_goals refine V.NLoop.auto (fun (k : Nat) => [(7, .one (.ref 3)), (8, .one (.ref 4))]) (fun (k : Nat) => [(3, .row 3 1 (((Rp.tp pr l).take k).map (·.id)).length (ga e1 (((Rp.tp pr l).take k).map (·.id)))), (4, .row 4 1 (Rp.us pr l k).length (ga eB (Rp.us pr l k)))]) [] [] (fun (k : Nat) => many.toNat - k) (fun (k : Nat) => k ≤ many.toNat ∧ k ≤ (Rp.tp pr l).length) 0 ⟨Nat.zero_le _, Nat.zero_le _⟩ V.S_ (by (conv => whnf); exact ⟨⟨rfl, rfl, rfl, fun _ h => absurd h (Nat.not_lt_zero _)⟩, ObLe.rep false (Rp.us_0 pr l) (fun _ => rfl), trivial⟩) (fun _ => ⟨rfl, rfl⟩) ?_; (conv => whnf); refine ⟨⟨rfl, rfl⟩, ?_⟩
  all_goals rintro k ⟨hk1, hk2⟩
  all_goals (have tkl : (((Rp.tp pr l).take k).map (·.id)).length = k := by rw [List.length_map, List.length_take]; omega)
  all_goals (have ul := Rp.us_len pr l k)
  all_goals by_cases hlt : (k : Int) < many
  all_goals repeat' ((conv => whnf); first | (refine V.NIf.yes ?_ ?_; · (omega; done)) | (refine V.NIf.no ?_ ?_; · (omega; done)) | refine V.NCond.mk ?_ | refine V.NPick.l ?_ | refine V.NIf.not_ ?_ | refine V.NIf.dec_ ?_ | refine V.a4 ?_ | refine V.a5 ?_ | refine V.NIf.mk (fun _ => ?_) (fun _ => ?_) | refine V.a7 ?_ | refine V.a8 ?_ | refine V.a9 ?_ | refine V.NBoth.mk ?_ ?_ | refine V.b1 ?_ | refine V.b2 ?_ | refine V.NTF.dec ?_ | refine V.b3 ?_ | refine V.b4 ?_ | (refine V.NDraw.any (by kernel_rfl) ?_) | fail)
  all_goals (conv => whnf)
  all_goals (try refine V.NLoop.auto (fun (s : Nat × Int) => [(10, .one (.val (.int .i64 s.1))), (9, .one (.val (.int .i64 s.2)))]) (fun (s : Nat × Int) => []) [] [] (fun (s : Nat × Int) => l.length - s.1) (fun (s : Nat × Int) => s.1 ≤ l.length ∧ Rp.B pr l k s.1 s.2) (0, -1) ⟨Nat.zero_le _, Rp.B.zero⟩ V.S_ V.S_ (fun _ => ⟨rfl, rfl⟩) ?_; (conv => whnf); refine ⟨⟨rfl, rfl⟩, ?_⟩)
  all_goals first
    | rintro ⟨i, b⟩ ⟨hi, hB⟩
      dsimp only at hi hB
      by_cases hlt2 : i < l.length
      · have o := ok _ (getD_mem hlt2)
        have u1 := Rp.us_at (pr := pr) (k := k) hlt2
        have c1 := v_rfopen _ ⟨o.1, o.2.2.1⟩
        have c2 := v_worth _ pr o h2
        have ob := F.ok_bounds o
        by_cases hin : Rp.In pr l k (l.getD i default)
        · have bk := hB.skip (fun u => u.2 hin)
          rw [decide_eq_true hin] at u1
          repeat' ((conv => whnf); first | (refine V.NIf.yes ?_ ?_; · (exact u1; done)) | (refine V.NIf.no ?_ ?_; · (rw [u1]; decide; done)) | refine V.NCond.mk ?_ | refine V.NPick.l ?_ | refine V.NIf.not_ ?_ | refine V.NIf.dec_ ?_ | refine V.a4 ?_ | refine V.a5 ?_ | refine V.NIf.mk (fun _ => ?_) (fun _ => ?_) | refine V.a7 ?_ | refine V.a8 ?_ | refine V.a9 ?_ | refine V.NBoth.mk ?_ ?_ | refine V.b1 ?_ | refine V.b2 ?_ | refine V.NTF.dec ?_ | refine V.b3 ?_ | refine V.b4 ?_ | (refine NIdx.mk ⟨i, rfl, by omega, ?_⟩) | (refine V.NDraw.any (by kernel_rfl) ?_) | fail)
          all_goals (conv => whnf)
          all_goals exact V.NBack.at_ (i + 1, b) [] ⟨by dsimp only; omega, bk⟩ (by dsimp only; omega) V.S_ rfl V.S_ V.S_ V.S_
        · rw [decide_eq_false hin] at u1
          by_cases hleft : F.left (l.getD i default) = 0
          · have bk := hB.skip (fun u => absurd u.1 (by omega))
            repeat' ((conv => whnf); first | (refine V.NIf.yes ?_ ?_; · (rw [u1]; decide; done)) | (refine V.NIf.no ?_ ?_; · (rw [u1]; decide; done)) | (refine V.NIf.yes ?_ ?_; · (omega; done)) | (refine V.NIf.no ?_ ?_; · (omega; done)) | refine V.NCond.mk ?_ | refine V.NPick.l ?_ | refine V.NIf.not_ ?_ | refine V.NIf.dec_ ?_ | refine V.a4 ?_ | refine V.a5 ?_ | refine V.NIf.mk (fun _ => ?_) (fun _ => ?_) | refine V.a7 ?_ | refine V.a8 ?_ | refine V.a9 ?_ | refine V.NBoth.mk ?_ ?_ | refine V.b1 ?_ | refine V.b2 ?_ | refine V.NTF.dec ?_ | refine V.b3 ?_ | refine V.b4 ?_ | (refine NIdx.mk ⟨i, rfl, by omega, ?_⟩) | (first | refine V.Fn.k0 (c1) rfl ?_ | refine V.Fn.q0 (c1) rfl ?_ | refine V.Fn.a0 (c1) rfl ?_) | (refine V.NDraw.any (by kernel_rfl) ?_) | fail)
            all_goals (conv => whnf)
            all_goals exact V.NBack.at_ (i + 1, b) [] ⟨by dsimp only; omega, bk⟩ (by dsimp only; omega) V.S_ rfl V.S_ V.S_ V.S_
          · have un : Rp.Un pr l k (l.getD i default) := ⟨by omega, hin⟩
            rcases hB.cases_ with rfl | ⟨m, rfl, hm, um⟩
            · have bk := hB.first un
              repeat' ((conv => whnf); first | (refine V.NIf.yes ?_ ?_; · (rw [u1]; decide; done)) | (refine V.NIf.no ?_ ?_; · (rw [u1]; decide; done)) | (refine V.NIf.yes ?_ ?_; · (omega; done)) | (refine V.NIf.no ?_ ?_; · (omega; done)) | refine V.NCond.mk ?_ | refine V.NPick.l ?_ | refine V.NIf.not_ ?_ | refine V.NIf.dec_ ?_ | refine V.a4 ?_ | refine V.a5 ?_ | refine V.NIf.mk (fun _ => ?_) (fun _ => ?_) | refine V.a7 ?_ | refine V.a8 ?_ | refine V.a9 ?_ | refine V.NBoth.mk ?_ ?_ | refine V.b1 ?_ | refine V.b2 ?_ | refine V.NTF.dec ?_ | refine V.b3 ?_ | refine V.b4 ?_ | (refine NIdx.mk ⟨i, rfl, by omega, ?_⟩) | (first | refine V.Fn.k0 (c1) rfl ?_ | refine V.Fn.q0 (c1) rfl ?_ | refine V.Fn.a0 (c1) rfl ?_) | (refine V.NDraw.any (by kernel_rfl) ?_) | fail)
              all_goals (conv => whnf)
              all_goals exact V.NBack.at_ (i + 1, (i : Int)) [] ⟨by dsimp only; omega, bk⟩ (by dsimp only; omega) V.S_ rfl V.S_ V.S_ V.S_
            · have om := ok _ (getD_mem (show m < l.length by omega))
              have c3 := v_worth _ pr om h2
              by_cases hL : Rp.Lt (Rp.wt pr (l.getD i default)) (Rp.wt pr (l.getD m default))
              · have bk := hB.better un hL
                rw [Rp.lt_wt] at hL
                generalize hA : (Rp.wt pr (l.getD i default)).wo = A at *
                generalize hC : (Rp.wt pr (l.getD m default)).wo = C at *
                repeat' ((conv => whnf); first | (refine V.NIf.yes ?_ ?_; · (rw [u1]; decide; done)) | (refine V.NIf.no ?_ ?_; · (rw [u1]; decide; done)) | (refine V.NIf.yes ?_ ?_; · (omega; done)) | (refine V.NIf.no ?_ ?_; · (omega; done)) | refine V.NCond.mk ?_ | refine V.NPick.l ?_ | refine V.NIf.not_ ?_ | refine V.NIf.dec_ ?_ | refine V.a4 ?_ | refine V.a5 ?_ | refine V.NIf.mk (fun _ => ?_) (fun _ => ?_) | refine V.a7 ?_ | refine V.a8 ?_ | refine V.a9 ?_ | refine V.NBoth.mk ?_ ?_ | refine V.b1 ?_ | refine V.b2 ?_ | refine V.NTF.dec ?_ | refine V.b3 ?_ | refine V.b4 ?_ | (refine NIdx.mk ⟨i, rfl, by omega, ?_⟩) | (refine NIdx.mk ⟨m, rfl, by omega, ?_⟩) | (first | refine V.Fn.k0 (c1) rfl ?_ | refine V.Fn.q0 (c1) rfl ?_ | refine V.Fn.a0 (c1) rfl ?_) | ((first | refine V.Fn.k (c2) [1] rfl ?_ ?_ | refine V.Fn.q (c2) [1] rfl ?_ ?_ | refine V.Fn.a (c2) [1] rfl ?_ ?_); · exact V.D_) | ((first | refine V.Fn.k (c3) [1] rfl ?_ ?_ | refine V.Fn.q (c3) [1] rfl ?_ ?_ | refine V.Fn.a (c3) [1] rfl ?_ ?_); · exact V.D_) | (refine V.NDraw.any (by kernel_rfl) ?_) | fail)
                all_goals (conv => whnf)
                all_goals exact V.NBack.at_ (i + 1, (i : Int)) [] ⟨by dsimp only; omega, bk⟩ (by dsimp only; omega) V.S_ rfl V.S_ V.S_ V.S_
              · have bk := hB.stay un hL
                rw [Rp.lt_wt] at hL
                generalize hA : (Rp.wt pr (l.getD i default)).wo = A at *
                generalize hC : (Rp.wt pr (l.getD m default)).wo = C at *
                repeat' ((conv => whnf); first | (refine V.NIf.yes ?_ ?_; · (rw [u1]; decide; done)) | (refine V.NIf.no ?_ ?_; · (rw [u1]; decide; done)) | (refine V.NIf.yes ?_ ?_; · (omega; done)) | (refine V.NIf.no ?_ ?_; · (omega; done)) | refine V.NCond.mk ?_ | refine V.NPick.l ?_ | refine V.NIf.not_ ?_ | refine V.NIf.dec_ ?_ | refine V.a4 ?_ | refine V.a5 ?_ | refine V.NIf.mk (fun _ => ?_) (fun _ => ?_) | refine V.a7 ?_ | refine V.a8 ?_ | refine V.a9 ?_ | refine V.NBoth.mk ?_ ?_ | refine V.b1 ?_ | refine V.b2 ?_ | refine V.NTF.dec ?_ | refine V.b3 ?_ | refine V.b4 ?_ | (refine NIdx.mk ⟨i, rfl, by omega, ?_⟩) | (refine NIdx.mk ⟨m, rfl, by omega, ?_⟩) | (first | refine V.Fn.k0 (c1) rfl ?_ | refine V.Fn.q0 (c1) rfl ?_ | refine V.Fn.a0 (c1) rfl ?_) | ((first | refine V.Fn.k (c2) [1] rfl ?_ ?_ | refine V.Fn.q (c2) [1] rfl ?_ ?_ | refine V.Fn.a (c2) [1] rfl ?_ ?_); · exact V.D_) | ((first | refine V.Fn.k (c3) [1] rfl ?_ ?_ | refine V.Fn.q (c3) [1] rfl ?_ ?_ | refine V.Fn.a (c3) [1] rfl ?_ ?_); · exact V.D_) | (refine V.NDraw.any (by kernel_rfl) ?_) | fail)
                all_goals (conv => whnf)
                all_goals exact V.NBack.at_ (i + 1, (m : Int)) [] ⟨by dsimp only; omega, bk⟩ (by dsimp only; omega) V.S_ rfl V.S_ V.S_ V.S_
      · obtain rfl : i = l.length := by omega
        rcases hB.cases_ with rfl | ⟨m, rfl, hm, um⟩
        · have tn := hB.none nd
          have tt : ((Rp.tp pr l).take many.toNat).map (·.id) = ((Rp.tp pr l).take k).map (·.id) := by rw [List.take_of_length_le (by omega), List.take_of_length_le (by omega)]
          rw [tt]
          repeat' ((conv => whnf); first | (refine V.NIf.yes ?_ ?_; · (omega; done)) | (refine V.NIf.no ?_ ?_; · (omega; done)) | refine V.NCond.mk ?_ | refine V.NPick.l ?_ | refine V.NIf.not_ ?_ | refine V.NIf.dec_ ?_ | refine V.a4 ?_ | refine V.a5 ?_ | refine V.NIf.mk (fun _ => ?_) (fun _ => ?_) | refine V.a7 ?_ | refine V.a8 ?_ | refine V.a9 ?_ | refine V.NBoth.mk ?_ ?_ | refine V.b1 ?_ | refine V.b2 ?_ | refine V.NTF.dec ?_ | refine V.b3 ?_ | refine V.b4 ?_ | (refine V.NDraw.any (by kernel_rfl) ?_) | fail)
          all_goals (conv => whnf)
          all_goals (first | exact V.erf 0 | exact V.erf 1 | exact V.erf 2 | exact V.erf 3 | exact V.erf 4 | exact V.erf 5 | exact V.erf 6 | exact V.erf 7 | exact V.erf 8 | exact V.erf 9 | exact V.erf 10 | exact V.erf 11 | exact V.erf 12 | exact V.erf 13 | exact V.erf 14 | exact V.erf 15 | exact V.erf 16 | exact V.erf 17)
        · obtain ⟨hm', hk', ew⟩ := hB.some_ nd
          have us1 := Rp.us_set nd hk' hm' um ew
          have eid : (l.getD m default).id = ((Rp.srt (Rp.wts pr l)).getD k default).id := congrArg Wt.id ew
          have tk := Rp.top_snoc (pr := pr) (l := l) (i := k) hk'
          rw [← eid] at tk
          repeat' ((conv => whnf); first | (refine V.NIf.yes ?_ ?_; · (omega; done)) | (refine V.NIf.no ?_ ?_; · (omega; done)) | refine V.NCond.mk ?_ | refine V.NPick.l ?_ | refine V.NIf.not_ ?_ | refine V.NIf.dec_ ?_ | refine V.a4 ?_ | refine V.a5 ?_ | refine V.NIf.mk (fun _ => ?_) (fun _ => ?_) | refine V.a7 ?_ | refine V.a8 ?_ | refine V.a9 ?_ | refine V.NBoth.mk ?_ ?_ | refine V.b1 ?_ | refine V.b2 ?_ | refine V.NTF.dec ?_ | refine V.b3 ?_ | refine V.b4 ?_ | (refine NIdx.mk ⟨m, rfl, by omega, ?_⟩) | (refine NPut.is_ (en := eB) true (Rp.us pr l (k + 1)) us1.symm rfl rfl ?_) | (refine NApp.one (en := e1) (l := ((Rp.tp pr l).take k).map (·.id)) (x := (l.getD m default).id) (by simp; omega) (by simp; omega) ?_) | (refine V.NDraw.any (by kernel_rfl) ?_) | fail)
          all_goals (conv => whnf)
          all_goals exact V.NBack.at_ (k + 1) [(3, 6)] ⟨by omega, by omega⟩ (by omega) V.S_ rfl ⟨ObLe.as_ tk, ⟨rfl, rfl, by rw [Rp.us_len, Rp.us_len], fun _ _ => rfl⟩, trivial⟩ V.S_ V.S_
    | obtain rfl : k = many.toNat := by omega
      (first | exact V.erf 0 | exact V.erf 1 | exact V.erf 2 | exact V.erf 3 | exact V.erf 4 | exact V.erf 5 | exact V.erf 6 | exact V.erf 7 | exact V.erf 8 | exact V.erf 9 | exact V.erf 10 | exact V.erf 11 | exact V.erf 12 | exact V.erf 13 | exact V.erf 14 | exact V.erf 15 | exact V.erf 16 | exact V.erf 17)
end Go.Proofs.Ytdehibmofmfkbaa

namespace Go.Proofs.Ytdehibmofmfkbaa
open Go Go.RowKit V
end Go.Proofs.Ytdehibmofmfkbaa

namespace Go.Proofs.Ytdehibmofmfkbaa
open Go Go.RowKit V
end Go.Proofs.Ytdehibmofmfkbaa

namespace Go.Proofs.Ytdehibmofmfkbaa
namespace Bk
def Right (p : Po) : Prop := ((0 ≤ p.ac ∧ p.ac ≤ 100) ∧ (0 ≤ p.ut ∧ p.ut ≤ 20)) ∧ M.Amt p.am ∧ p.am ≠ 0
instance (p : Po) : Decidable (Right p) := by unfold Right M.Amt; exact inferInstance
def amu (l : List Po) (u : Nat) : List Int := (l.filter fun p => decide (p.ut = (u : Int))).map (·.am)
def even (l : List Po) : Bool := (List.range 21).all fun u => decide (M.sum (amu l u) = 0)
def bad (p : Po) : Bool := !decide (Right p)
def chk (l : List Po) : Int := if l.length = 0 then 1 else if 60 < l.length then 2 else if 0 ≤ ixf bad l then 3 else if even l = true then 0 else 4
def lx (p q : Po) : Bool := decide (p.ac < q.ac ∨ (p.ac = q.ac ∧ p.ut < q.ut))
def eAt (b : List Po) (k : Nat) : Int := if ¬ Right (b.getD k default) then 3 else if 0 < k ∧ lx (b.getD (k - 1) default) (b.getD k default) = false then 4 else 0
structure Lines (b : List Po) : Prop where
  le : b.length ≤ 400
  r : ∀ p ∈ b, Right p
  s : b.Pairwise fun p q => lx p q = true
theorem lx_trans {p q r : Po} (h1 : lx p q = true) (h2 : lx q r = true) : lx p r = true := by
  unfold lx at *
  simp only [decide_eq_true_eq] at *
  omega
theorem fe_ok {b : List Po} (n : b.length ≤ 400) (h : Ca.fe (eAt b) b.length = 0) : Lines b := by
  have a := Ca.fe_ok h
  have e : ∀ k, k < b.length → Right (b.getD k default) ∧ (0 < k → lx (b.getD (k - 1) default) (b.getD k default) = true) := fun k hk => by
    have := a k hk
    unfold eAt at this
    split at this
    · omega
    · rename_i q
      split at this
      · omega
      · rename_i r
        refine ⟨Classical.not_not.1 q, fun h0 => ?_⟩
        cases z : lx (b.getD (k - 1) default) (b.getD k default)
        · exact absurd ⟨h0, z⟩ r
        · rfl
  refine ⟨n, fun p hp => ?_, List.pairwise_iff_getElem.2 fun i j hi hj hij => ?_⟩
  · obtain ⟨i, hi, rfl⟩ := List.getElem_of_mem hp
    rw [← getD_at hi]
    exact (e i hi).1
  · have st : ∀ m, i < m → m < b.length → lx (b.getD i default) (b.getD m default) = true := by
      intro m
      induction m with
      | zero => intro h; omega
      | succ m ih =>
        intro h1 h2
        have h3 := (e (m + 1) h2).2 (by omega)
        rw [Nat.add_sub_cancel] at h3
        by_cases z : i = m
        · subst z; exact h3
        · exact lx_trans (ih (by omega) (by omega)) h3
    have := st j hij hj
    rwa [getD_at hi, getD_at hj] at this
end Bk
end Go.Proofs.Ytdehibmofmfkbaa

namespace Go.Proofs.Ytdehibmofmfkbaa
namespace Nt
def one (p : Nat) (d : Du) : List Int := (if d.fr = (p : Int) then [-d.am] else []) ++ (if d.to = (p : Int) then [d.am] else [])
def part (l : List Du) (p : Nat) : List Int := l.flatMap (one p)
def sums (l : List Du) (k : Nat) : List Int := (List.range k).map fun p => M.sum (part l p)
def Wide (l : List Du) : Prop := ∀ p, p < 31 → M.Amt (M.sum (part l p))
instance (a : Int) : Decidable (M.Amt a) := by unfold M.Amt; exact inferInstance
instance (l : List Du) : Decidable (Wide l) := by unfold Wide; exact inferInstance
def stE (l : List Du) : Int := if N.chk l ≠ 0 then N.chk l else if Wide l then 0 else 8
def st (l : List Du) : List Int := if stE l = 0 then sums l 31 else []
def two (p q : Int) (d : Du) : List Int := (if d.to = p ∧ (q < 0 ∨ d.fr = q) then [d.am] else []) ++ (if d.fr = p ∧ (q < 0 ∨ d.to = q) then [-d.am] else [])
end Nt
end Go.Proofs.Ytdehibmofmfkbaa

namespace Go.Proofs.Ytdehibmofmfkbaa.V
open Go Go.RowKit
theorem Redo.refl (sz : Nat) (env : Env) (obs : Obs) (nx : Nat) : Redo sz env obs nx env obs nx := ⟨fun _ ρ _ _ h1 h2 => ⟨ρ, fun _ _ h => h, h1, h2⟩⟩
theorem Redo.out {sz : Nat} {env env' : Env} {obs obs' : Obs} {nx nx' : Nat} (i k : Nat) {t e s n m : Nat} {vs : Nat → Value} {xs : Nat → Option (Nat × (Nat → List Value))} {g : Nat → List Value} (ho : fnd obs i = some (.rws t e s n vs xs)) (hk : k < n) (hx : xs k = some (m, g))
    (h : Redo sz env ((nx, .rov (vs k) e s m g) :: (i, .rws t e s n vs (putX xs k none)) :: obs) (nx + 1) env' obs' nx') : Redo sz env obs nx env' obs' nx' :=
  ⟨fun B ρ w a hE hC => by
    obtain ⟨c, _⟩ := hC.out ho hk hx (.inl rfl)
    have hX : Ext ρ (upd ρ nx (vs k)) := ext_upd (hC.new nx (Nat.le_refl _))
    obtain ⟨ρ', h1, h2, h3⟩ := h.h B _ w a (hE.ext hX) c
    exact ⟨ρ', fun i y q => h1 i y (hX i y q), h2, h3⟩⟩
end Go.Proofs.Ytdehibmofmfkbaa.V
namespace Go.Proofs.Ytdehibmofmfkbaa
open Go Go.RowKit V
end Go.Proofs.Ytdehibmofmfkbaa

namespace Go.Proofs.Ytdehibmofmfkbaa
open Go Go.RowKit V
end Go.Proofs.Ytdehibmofmfkbaa

namespace Go.Proofs.Ytdehibmofmfkbaa
open Go Go.RowKit V
end Go.Proofs.Ytdehibmofmfkbaa

namespace Go.Proofs.Ytdehibmofmfkbaa
open Go Go.RowKit V
end Go.Proofs.Ytdehibmofmfkbaa

namespace Go.Proofs.Ytdehibmofmfkbaa
open Go Go.RowKit V
namespace Pn
def po (p : Nat) (n : Int) : List Po := if n = 0 then [] else [⟨p, 0, n⟩]
def pos (s : List Int) (k : Nat) : List Po := (List.range k).flatMap fun p => po p (s.getD p default)
end Pn
end Go.Proofs.Ytdehibmofmfkbaa

namespace Go.Proofs.Ytdehibmofmfkbaa
open Go Go.RowKit V
end Go.Proofs.Ytdehibmofmfkbaa

namespace Go.Proofs.Ytdehibmofmfkbaa
open Go
structure Lt where
  day : Int
  un : Int
  co : Int
instance : Inhabited Lt := ⟨⟨0, 0, 0⟩⟩
end Go.Proofs.Ytdehibmofmfkbaa

namespace Go.Proofs.Ytdehibmofmfkbaa
open Go Go.RowKit V
instance : DecidableEq Du := fun x y => decidable_of_iff (x.fr = y.fr ∧ x.to = y.to ∧ x.am = y.am) ⟨fun h => by cases x; cases y; simp_all, fun h => by subst h; simp⟩
instance : DecidableEq Po := fun x y => decidable_of_iff (x.ac = y.ac ∧ x.ut = y.ut ∧ x.am = y.am) ⟨fun h => by cases x; cases y; simp_all, fun h => by subst h; simp⟩
instance : DecidableEq Fl := fun x y => decidable_of_iff (x.id = y.id ∧ x.fr = y.fr ∧ x.to = y.to ∧ x.cl = y.cl ∧ x.pa = y.pa ∧ x.day = y.day ∧ x.un = y.un ∧ x.de = y.de ∧ x.bo = y.bo ∧ x.pd = y.pd) ⟨fun h => by cases x; cases y; simp_all, fun h => by subst h; simp⟩
instance : DecidableEq Lt := fun x y => decidable_of_iff (x.day = y.day ∧ x.un = y.un ∧ x.co = y.co) ⟨fun h => by cases x; cases y; simp_all, fun h => by subst h; simp⟩
end Go.Proofs.Ytdehibmofmfkbaa

namespace Go.Proofs.Ytdehibmofmfkbaa
open Go Go.RowKit V
namespace Pn
def tens : List Int := List.replicate 20 100000
theorem rep_at {α : Type} (x d : α) {n j : Nat} (h : j < n) : (List.replicate n x).getD j d = x := by simp [List.getD, h]
end Pn
theorem v_tenEach : V.FnR Try.prog 51 [] [] (.one (.ref 0)) [.row 3 1 20 (ga e1 Pn.tens)] := by
  refine V.FnR.mk_ V.Tok V.mixed Try.func51 rfl Try.ntmps51 (by kernel_rfl) rfl rfl rfl rfl ?_
  repeat' ((conv => whnf); first | refine V.NCond.mk ?_ | refine V.NPick.l ?_ | refine V.NIf.not_ ?_ | refine V.NIf.dec_ ?_ | refine V.a4 ?_ | refine V.a5 ?_ | refine V.NIf.mk (fun _ => ?_) (fun _ => ?_) | refine V.a7 ?_ | refine V.a8 ?_ | refine V.a9 ?_ | refine V.NBoth.mk ?_ ?_ | refine V.b1 ?_ | refine V.b2 ?_ | refine V.NTF.dec ?_ | refine V.b3 ?_ | refine V.b4 ?_ | (refine NMake.mk ⟨20, 20, rfl, rfl, by omega, by omega, by first | omega | decide | (simp; done) | (simp; omega), ?_⟩) | (refine V.NDraw.any (by kernel_rfl) ?_) | fail)
  all_goals (conv => whnf)
  refine V.NLoop.auto (fun (k : Nat) => [(2, .one (.val (.int .i64 k))), (1, .one (.ref 1))]) (fun (k : Nat) => [(1, .row 3 1 20 fun j => e1 (if j < k then 100000 else 0))]) [] [] (fun (k : Nat) => 20 - k) (fun (k : Nat) => k ≤ 20) 0 (Nat.zero_le _) V.S_ (by (conv => whnf); exact ⟨⟨rfl, rfl, rfl, fun j hj => (congrArg e1 (if_neg (Nat.not_lt_zero j))).symm⟩, trivial⟩) (fun _ => ⟨rfl, rfl⟩) ?_; (conv => whnf); refine ⟨⟨rfl, rfl⟩, ?_⟩
  rintro k hk
  by_cases hlt : k < 20
  · repeat' ((conv => whnf); first | refine V.NCond.mk ?_ | refine V.NPick.l ?_ | refine V.NIf.not_ ?_ | refine V.NIf.dec_ ?_ | refine V.a4 ?_ | refine V.a5 ?_ | refine V.NIf.mk (fun _ => ?_) (fun _ => ?_) | refine V.a7 ?_ | refine V.a8 ?_ | refine V.a9 ?_ | refine V.NBoth.mk ?_ ?_ | refine V.b1 ?_ | refine V.b2 ?_ | refine V.NTF.dec ?_ | refine V.b3 ?_ | refine V.b4 ?_ | (refine NIdx.mk ⟨k, rfl, by omega, ?_⟩) | (refine NPut.mk ⟨fun j => e1 (if j < k + 1 then 100000 else 0), ?_, ?_⟩) | (refine V.NDraw.any (by kernel_rfl) ?_) | fail)
    all_goals (conv => whnf)
    · intro j hj
      by_cases e : j = k
      · rw [if_pos e]; exact congrArg e1 (if_pos (by omega))
      · rw [if_neg e]
        by_cases e2 : j < k
        · exact congrArg e1 ((if_pos (by omega)).trans (if_pos e2).symm)
        · exact congrArg e1 ((if_neg (by omega)).trans (if_neg e2).symm)
    · exact V.NBack.at_ (k + 1) [] (by omega) (by omega) V.S_ rfl ⟨⟨rfl, rfl, rfl, fun _ _ => rfl⟩, trivial⟩ V.S_ V.S_
  obtain rfl : k = 20 := by omega
  repeat' ((conv => whnf); first | refine V.NCond.mk ?_ | refine V.NPick.l ?_ | refine V.NIf.not_ ?_ | refine V.NIf.dec_ ?_ | refine V.a4 ?_ | refine V.a5 ?_ | refine V.NIf.mk (fun _ => ?_) (fun _ => ?_) | refine V.a7 ?_ | refine V.a8 ?_ | refine V.a9 ?_ | refine V.NBoth.mk ?_ ?_ | refine V.b1 ?_ | refine V.b2 ?_ | refine V.NTF.dec ?_ | refine V.b3 ?_ | refine V.b4 ?_ | (refine V.NDraw.any (by kernel_rfl) ?_) | fail)
  all_goals (conv => whnf)
  exact NRet.mk_ [some 1] rfl rfl ⟨⟨rfl, rfl, rfl, fun j hj => congrArg e1 ((if_pos hj).trans (Pn.rep_at 100000 default hj).symm)⟩, trivial⟩
end Go.Proofs.Ytdehibmofmfkbaa

namespace Go.Proofs.Ytdehibmofmfkbaa
namespace Pn
def f1 : Fl := ⟨7, 1, 2, 0, 3, 739935, 3000, 0, 0, 0⟩
def d1 : List Du := [⟨1, 2, 3⟩]
theorem p_tens : P.chks tens = 0 := P.chks_of (by decide) fun p hp => by rw [List.eq_of_mem_replicate hp]; decide
theorem w_chk : Ca.chk Ca.W = 0 := by decide
theorem o_yes : oE Ca.W 739937 = 0 := oE_yes w_chk ⟨by decide, by decide⟩
end Pn
end Go.Proofs.Ytdehibmofmfkbaa

namespace Go.Proofs.Ytdehibmofmfkbaa
namespace Rp
theorem srt_eq {l m : List Wt} (p : m.Perm l) (s : m.Pairwise fun x y => ¬ Lt y x) : srt l = m :=
  List.Perm.eq_of_pairwise (le := fun x y => ¬ Lt y x) (fun a b _ _ h1 h2 => lt_eq h2 h1) (srt_up l) s ((srt_perm l).trans p.symm)
def g0 : Fl := ⟨9, 4, 2, 0, 3, 739935, 50, 0, 0, 0⟩
def L0 : List Fl := [F.s0, g0]
theorem l_ok : F.checks L0 = 0 := by decide
theorem b_ok : eE [2, 5] = 0 := by decide
theorem fr_1 : (frV L0).length = 31 ∧ (frV L0).getD 1 default = 100 ∧ (frV L0).getD 4 default = 50 := by
  rw [show frV L0 = pts (·.fr) L0 from if_pos l_ok]
  exact ⟨pts_len _ _, (pts_at _ _ (by decide)).trans (by decide), (pts_at _ _ (by decide)).trans (by decide)⟩
theorem to_1 : (toV L0).length = 31 ∧ (toV L0).getD 2 default = 150 := by
  rw [show toV L0 = pts (·.to) L0 from if_pos l_ok]
  exact ⟨pts_len _ _, (pts_at _ _ (by decide)).trans (by decide)⟩
theorem pr_3 : P.pr Pn.tens 3 = 100000 := Pn.rep_at 100000 default (by decide)
theorem t_1 : tE L0 Pn.tens 5 = 0 ∧ tV L0 Pn.tens 5 = [7, 9] := by
  have e : tE L0 Pn.tens 5 = 0 := tE_4 l_ok Pn.p_tens (by decide)
  refine ⟨e, ?_⟩
  rw [tV_yes e]
  have w : wts Pn.tens L0 = [⟨7, P.cost 100 100000⟩, ⟨9, P.cost 50 100000⟩] := by
    show [wt Pn.tens F.s0, wt Pn.tens g0] = _
    unfold wt
    rw [show P.pr Pn.tens F.s0.pa = 100000 from pr_3, show P.pr Pn.tens g0.pa = 100000 from pr_3]
    rfl
  unfold tp
  rw [w, srt_eq (m := [⟨7, P.cost 100 100000⟩, ⟨9, P.cost 50 100000⟩]) (List.Perm.refl _) (by decide)]
  rfl
theorem r_1 : rE L0 = 0 ∧ rV L0 = 0 := by
  have a := rE_3 (l := L0) l_ok (by decide)
  exact ⟨a.1, a.2.trans (by decide)⟩
theorem r_2 : rE [] = 5 ∧ rV [] = 0 := rE_2 (by decide) rfl
theorem c_1 : Ca.cnt Ca.W 739935 739942 = 4 := by
  have u := (Ca.stp_is (c := Ca.W) (n := 739935) (m := 4) (by decide) (by
    have := Ag.a_1
    unfold Ag.d1 at this
    rw [show Ag.A.ex = 4 from rfl] at this
    omega)).1 (by decide)
  have e : Ca.stp Ca.W 739935 4 = 739942 := Ag.a_1
  rw [e] at u
  exact u.2.2.2
theorem a_1 : aE Ca.W L0 739942 [2, 5] = 0 ∧ aV Ca.W L0 739942 [2, 5] = [0, 2, 0] := by
  have e : aE Ca.W L0 739942 [2, 5] = 0 := (aE_4 Pn.w_chk l_ok (by decide)).trans b_ok
  refine ⟨e, (aV_yes e).trans ?_⟩
  have s1 : ∀ h, agS Ca.W 739942 [2, 5] h F.s0 = bump h 1 := fun h => by
    unfold agS
    rw [if_pos (by decide), show F.s0.day = 739935 from rfl, c_1]
    rfl
  have s2 : ∀ h, agS Ca.W 739942 [2, 5] h g0 = bump h 1 := fun h => by
    unfold agS
    rw [if_pos (by decide), show g0.day = 739935 from rfl, c_1]
    rfl
  show agS Ca.W 739942 [2, 5] (agS Ca.W 739942 [2, 5] [0, 0, 0] F.s0) g0 = _
  rw [s1, s2]
  decide
end Rp
end Go.Proofs.Ytdehibmofmfkbaa

namespace Go.Proofs.Ytdehibmofmfkbaa
open Go Go.RowKit V
theorem v_week : V.FnR Try.prog 50 [] [] (.agg [.val (.int .i64 96), .ref 0]) [.row 3 1 1 (ga e1 [739936])] := by
  refine V.FnR.mk_ V.Tok V.mixed Try.func50 rfl Try.ntmps50 (by kernel_rfl) rfl rfl rfl rfl ?_
  repeat' ((conv => whnf); first | refine V.NCond.mk ?_ | refine V.NPick.l ?_ | refine V.NIf.not_ ?_ | refine V.NIf.dec_ ?_ | refine V.a4 ?_ | refine V.a5 ?_ | refine V.NIf.mk (fun _ => ?_) (fun _ => ?_) | refine V.a7 ?_ | refine V.a8 ?_ | refine V.a9 ?_ | refine V.NBoth.mk ?_ ?_ | refine V.b1 ?_ | refine V.b2 ?_ | refine V.NTF.dec ?_ | refine V.b3 ?_ | refine V.b4 ?_ | (refine V.NDraw.any (by kernel_rfl) ?_) | fail)
  all_goals (conv => whnf)
  exact NRet.mk_ [some 1] rfl ⟨rfl, rfl, trivial⟩ ⟨⟨rfl, rfl, rfl, Nat.one_pos, V.S_⟩, trivial⟩
end Go.Proofs.Ytdehibmofmfkbaa

namespace Go.Proofs.Ytdehibmofmfkbaa
open Go Go.RowKit V
theorem v_sameints (a b : List Int) (ha : a.length ≤ 9223372036854775807) : V.Fn Try.prog 20 [.arr 1 a.length (ga e1 a), .arr 1 b.length (ga e1 b)] [.one (.ref 0), .one (.ref 1)] (.bool (decide (a = b))) := by
  refine V.Fn.mk_ V.Tok V.mixed Try.func20 rfl Try.ntmps20 (by kernel_rfl) rfl rfl ?_
  repeat' ((conv => whnf); first | refine V.NCond.mk ?_ | refine V.NPick.l ?_ | refine V.NIf.not_ ?_ | refine V.NIf.dec_ ?_ | refine V.a4 ?_ | refine V.a5 ?_ | refine V.NIf.mk (fun _ => ?_) (fun _ => ?_) | refine V.a7 ?_ | refine V.a8 ?_ | refine V.a9 ?_ | refine V.NBoth.mk ?_ ?_ | refine V.b1 ?_ | refine V.b2 ?_ | refine V.NTF.dec ?_ | refine V.b3 ?_ | refine V.b4 ?_ | (refine V.NDraw.any (by kernel_rfl) ?_) | fail)
  rotate_left
  · exact congrArg Value.bool (decide_eq_false (by rintro rfl; omega)).symm
  (conv => whnf)
  rename_i hl
  have hl : a.length = b.length := by omega
  refine V.NLoop.auto (fun (k : Nat) => [(5, .one (.val (.int .i64 k)))]) (fun (k : Nat) => []) [] [] (fun (k : Nat) => a.length - k) (fun (k : Nat) => k ≤ a.length ∧ a.take k = b.take k) 0 ⟨by omega, by simp⟩ V.S_ V.S_ (fun _ => ⟨rfl, rfl⟩) ?_; (conv => whnf); refine ⟨⟨rfl, rfl⟩, ?_⟩
  rintro k ⟨hk, hJ⟩
  by_cases hlt : k < a.length
  · have e1 := getD_at (l := a) (by omega)
    have e2 := getD_at (l := b) (k := k) (by omega)
    repeat' ((conv => whnf); first | refine V.NCond.mk ?_ | refine V.NPick.l ?_ | refine V.NIf.not_ ?_ | refine V.NIf.dec_ ?_ | refine V.a4 ?_ | refine V.a5 ?_ | refine V.NIf.mk (fun _ => ?_) (fun _ => ?_) | refine V.a7 ?_ | refine V.a8 ?_ | refine V.a9 ?_ | refine V.NBoth.mk ?_ ?_ | refine V.b1 ?_ | refine V.b2 ?_ | refine V.NTF.dec ?_ | refine V.b3 ?_ | refine V.b4 ?_ | (refine NIdx.mk ⟨k, rfl, by omega, ?_⟩) | (refine V.NDraw.any (by kernel_rfl) ?_) | fail)
    all_goals (conv => whnf)
    · rename_i q
      exact V.NBack.at_ (k + 1) [] ⟨by omega, by rw [List.take_succ_eq_append_getElem hlt, List.take_succ_eq_append_getElem (by omega), hJ, ← e1, ← e2, q]⟩ (by omega) V.S_ rfl V.S_ V.S_ V.S_
    · rename_i q
      exact congrArg Value.bool (decide_eq_false (by rintro rfl; exact q rfl)).symm
  · obtain rfl : k = a.length := by omega
    repeat' ((conv => whnf); first | refine V.NCond.mk ?_ | refine V.NPick.l ?_ | refine V.NIf.not_ ?_ | refine V.NIf.dec_ ?_ | refine V.a4 ?_ | refine V.a5 ?_ | refine V.NIf.mk (fun _ => ?_) (fun _ => ?_) | refine V.a7 ?_ | refine V.a8 ?_ | refine V.a9 ?_ | refine V.NBoth.mk ?_ ?_ | refine V.b1 ?_ | refine V.b2 ?_ | refine V.NTF.dec ?_ | refine V.b3 ?_ | refine V.b4 ?_ | (refine V.NDraw.any (by kernel_rfl) ?_) | fail)
    (conv => whnf)
    refine congrArg Value.bool (decide_eq_true ?_).symm
    rw [List.take_length, List.take_of_length_le (by omega)] at hJ
    exact hJ
end Go.Proofs.Ytdehibmofmfkbaa

namespace Go.Proofs.Ytdehibmofmfkbaa
open Go Go.RowKit V
set_option maxHeartbeats 4000000 in
theorem v_repBegun : V.Fn Try.prog 19 [] [] (.bool true) := by
  have c1 := v_rages Ca.W Rp.L0 739942 [2, 5] (by decide) (by decide)
  rw [Rp.a_1.1, Rp.a_1.2] at c1
  have c2 := v_parties Rp.L0
  rw [Rp.l_ok] at c2
  obtain ⟨q1, q2, q3⟩ := Rp.fr_1
  obtain ⟨q4, q5⟩ := Rp.to_1
  generalize Rp.frV Rp.L0 = X at *
  generalize Rp.toV Rp.L0 = Y at *
  have c3 := v_top Rp.L0 Pn.tens 5 (by decide)
  rw [Rp.t_1.1, Rp.t_1.2] at c3
  have c4 := v_rrate Rp.L0
  rw [Rp.r_1.1, Rp.r_1.2] at c4
  have c5 := v_rrate []
  rw [Rp.r_2.1, Rp.r_2.2] at c5
  have c6 := v_sameints [0, 2, 0] [0, 2, 0] (by decide)
  have c7 := v_sameints [7, 9] [7, 9] (by decide)
  refine V.Fn.mk_ V.Tok V.mixed Try.func19 rfl Try.ntmps19 (by kernel_rfl) rfl rfl ?_
  repeat' ((conv => whnf); first | (refine V.NIf.yes ?_ ?_; · (decide; done)) | (refine V.NIf.no ?_ ?_; · (decide; done)) | refine V.NCond.mk ?_ | refine V.NPick.l ?_ | refine V.NIf.not_ ?_ | refine V.NIf.dec_ ?_ | refine V.a4 ?_ | refine V.a5 ?_ | refine V.NIf.mk (fun _ => ?_) (fun _ => ?_) | refine V.a7 ?_ | refine V.a8 ?_ | refine V.a9 ?_ | refine V.NBoth.mk ?_ ?_ | refine V.b1 ?_ | refine V.b2 ?_ | refine V.NTF.dec ?_ | refine V.b3 ?_ | refine V.b4 ?_ | (first | refine V.Fn.k0 (v_some) rfl ?_ | refine V.Fn.q0 (v_some) rfl ?_ | refine V.Fn.a0 (v_some) rfl ?_) | (first | refine V.FnR.k0 (v_week) rfl ?_ | refine V.FnR.a0 (v_week) rfl ?_) | (first | refine V.FnR.k0 (v_tenEach) rfl ?_ | refine V.FnR.a0 (v_tenEach) rfl ?_) | ((first | refine V.FnR.k_ (c1) [2, 1, 3] rfl ?_ ?_ | refine V.FnR.a_ (c1) [2, 1, 3] rfl ?_ ?_); · exact V.D_) | ((first | refine V.FnR.k_ (c1) [3, 1, 2] rfl ?_ ?_ | refine V.FnR.a_ (c1) [3, 1, 2] rfl ?_ ?_); · exact V.D_) | ((first | refine V.FnR.k_ (c2) [1] rfl ?_ ?_ | refine V.FnR.a_ (c2) [1] rfl ?_ ?_); · exact V.D_) | ((first | refine V.FnR.k_ (c3) [1, 7] rfl ?_ ?_ | refine V.FnR.a_ (c3) [1, 7] rfl ?_ ?_); · exact V.D_) | ((first | refine V.Fn.k (c4) [1] rfl ?_ ?_ | refine V.Fn.q (c4) [1] rfl ?_ ?_ | refine V.Fn.a (c4) [1] rfl ?_ ?_); · exact V.D_) | (refine NCall.nil_ (f := 11) 0 10 rfl ?_) | ((first | refine V.Fn.k (c5) [9] rfl ?_ ?_ | refine V.Fn.q (c5) [9] rfl ?_ ?_ | refine V.Fn.a (c5) [9] rfl ?_ ?_); · exact V.D_) | ((first | refine V.Fn.k (c6) [4, 10] rfl ?_ ?_ | refine V.Fn.q (c6) [4, 10] rfl ?_ ?_ | refine V.Fn.a (c6) [4, 10] rfl ?_ ?_); · exact V.D_) | ((first | refine V.Fn.k (c7) [8, 11] rfl ?_ ?_ | refine V.Fn.q (c7) [8, 11] rfl ?_ ?_ | refine V.Fn.a (c7) [8, 11] rfl ?_ ?_); · exact V.D_) | (refine NIdx.mk ⟨1, rfl, by omega, ?_⟩) | (refine NIdx.mk ⟨4, rfl, by omega, ?_⟩) | (refine NIdx.mk ⟨2, rfl, by omega, ?_⟩) | (refine V.NDraw.any (by kernel_rfl) ?_) | fail)
  all_goals (conv => whnf)
  all_goals exact ⟨true, rfl, iff_of_true (by decide) rfl⟩
theorem Rp.last_bd {b : List Int} (h : Rp.Edges b) : 0 ≤ Rp.last b ∧ Rp.last b ≤ 3652058 := by
  unfold Rp.last
  split
  · omega
  · have := h.bd _ (getD_mem (l := b) (k := b.length - 1) (by omega))
    omega
macro "rp_last" : tactic => `(tactic| first | exact (if_neg (by omega)).symm | exact (if_pos (by omega)).symm)
theorem Rp.pts_take (g : Fl → Int) (l : List Fl) {p : Nat} (h : p < 31) : (Rp.pts g l).take (p + 1) = (Rp.pts g l).take p ++ [Rp.pt g l p] := by
  rw [List.take_succ_eq_append_getElem (by rw [Rp.pts_len]; exact h), ← getD_at (by rw [Rp.pts_len]; exact h), Rp.pts_at g l h]
def rpO (c : Cl) (l : List Fl) (b ps : List Int) : List Ob := [.arr 1 c.hs.length (ga e1 c.hs), .arr 10 l.length (ga encF l), .arr 1 b.length (ga e1 b), .arr 1 ps.length (ga e1 ps)]
theorem Rp.fr_len (l : List Fl) : (Rp.frV l).length ≤ 31 := by
  unfold Rp.frV
  split
  · rw [Rp.pts_len]; exact Nat.le_refl _
  · exact Nat.zero_le _
theorem Rp.to_len (l : List Fl) : (Rp.toV l).length ≤ 31 := by
  unfold Rp.toV
  split
  · rw [Rp.pts_len]; exact Nat.le_refl _
  · exact Nat.zero_le _
end Go.Proofs.Ytdehibmofmfkbaa

namespace Go.Proofs.Ytdehibmofmfkbaa
open Go Go.RowKit V
set_option maxHeartbeats 4000000 in
theorem v_rt_na (c : Cl) (l : List Fl) (td : Int) (b ps : List Int) (many : Int) (hc : c.hs.length ≤ 9223372036854775807) (hn : b.length ≤ 9223372036854775807) (hp : ps.length ≤ 9223372036854775807) (hw : ¬ Rp.aE c l td b = 0) (hx : F.checks l = 0) (hu : ¬ P.chks ps = 0) : V.Fn Try.prog 3 (rpO c l b ps) [.agg [.val (.int .i64 c.we), .ref 0], .one (.ref 1), .one (.val (.int .i64 td)), .one (.ref 2), .one (.ref 3), .one (.val (.int .i64 many))] (.bool true) := by
  unfold rpO
  have n60 := F.checks_len (l := l) (by omega)
  have ok := Pn.all_ok hx
  have c1 := v_rages c l td b hc hn
  have c2 := v_parties l
  have c3 := v_top l ps many hp
  have c4 := v_rrate l
  have c5 := v_rreperr c l td b hc hn
  have c6 := v_rfchecks l
  have c7 := v_rprices ps hp
  have lx := Rp.fr_len l
  have ly := Rp.to_len l
  have d2 := v_sameints (Rp.frV l) (Rp.frV l) (by omega)
  have d3 := v_sameints (Rp.toV l) (Rp.toV l) (by omega)
  rw [show decide (Rp.frV l = Rp.frV l) = true from decide_eq_true rfl, show Rp.frV l = Rp.pts (·.fr) l from if_pos hx] at d2
  rw [show decide (Rp.toV l = Rp.toV l) = true from decide_eq_true rfl, show Rp.toV l = Rp.pts (·.to) l from if_pos hx] at d3
  rw [hx, show Rp.frV l = Rp.pts (·.fr) l from if_pos hx, show Rp.toV l = Rp.pts (·.to) l from if_pos hx] at c2
  rw [hx] at c6
  have d4 := v_sameints [] [] (by decide)
  rw [show decide (([] : List Int) = []) = true from rfl] at d4
  have te := Rp.tE_2 (many := many) hx hu
  rw [Rp.tV_no (by rw [te]; exact hu), te] at c3
  rw [Rp.aV_no hw] at c1
  have d1 := v_sameints [] [] (by decide)
  rw [show decide (([] : List Int) = []) = true from rfl] at d1
  generalize Rp.aE c l td b = w at *
  refine V.Fn.mk_ V.Tok V.mixed Try.func3 rfl Try.ntmps3 (by kernel_rfl) rfl rfl ?_
  repeat' ((conv => whnf); first | (refine V.NIf.yes ?_ ?_; · (decide; done)) | (refine V.NIf.no ?_ ?_; · (decide; done)) | (refine V.NIf.yes ?_ ?_; · (exact hw; done)) | (refine V.NIf.no ?_ ?_; · (exact hw; done)) | (refine V.NIf.yes ?_ ?_; · (omega; done)) | (refine V.NIf.no ?_ ?_; · (omega; done)) | refine V.NCond.mk ?_ | refine V.NPick.l ?_ | refine V.NIf.not_ ?_ | refine V.NIf.dec_ ?_ | refine V.a4 ?_ | refine V.a5 ?_ | refine V.NIf.mk (fun _ => ?_) (fun _ => ?_) | refine V.a7 ?_ | refine V.a8 ?_ | refine V.a9 ?_ | refine V.NBoth.mk ?_ ?_ | refine V.b1 ?_ | refine V.b2 ?_ | refine V.NTF.dec ?_ | refine V.b3 ?_ | refine V.b4 ?_ | ((first | refine V.FnR.k_ (c1) [0, 1, 2] rfl ?_ ?_ | refine V.FnR.a_ (c1) [0, 1, 2] rfl ?_ ?_); · exact V.D_) | ((first | refine V.FnR.k_ (c2) [1] rfl ?_ ?_ | refine V.FnR.a_ (c2) [1] rfl ?_ ?_); · exact V.D_) | ((first | refine V.FnR.k_ (c3) [1, 3] rfl ?_ ?_ | refine V.FnR.a_ (c3) [1, 3] rfl ?_ ?_); · exact V.D_) | ((first | refine V.Fn.k (c4) [1] rfl ?_ ?_ | refine V.Fn.q (c4) [1] rfl ?_ ?_ | refine V.Fn.a (c4) [1] rfl ?_ ?_); · exact V.D_) | ((first | refine V.Fn.k (c5) [0, 1, 2] rfl ?_ ?_ | refine V.Fn.q (c5) [0, 1, 2] rfl ?_ ?_ | refine V.Fn.a (c5) [0, 1, 2] rfl ?_ ?_); · exact V.D_) | ((first | refine V.Fn.k (c6) [1] rfl ?_ ?_ | refine V.Fn.q (c6) [1] rfl ?_ ?_ | refine V.Fn.a (c6) [1] rfl ?_ ?_); · exact V.D_) | (refine V.NDraw.any (by kernel_rfl) ?_) | fail)
  all_goals (conv => whnf)
  all_goals refine V.NLoop.auto (fun (p : Nat) => [(35, .one (.val (.int .i64 p))), (27, .one (.ref 10)), (28, .one (.ref 11))]) (fun (p : Nat) => [(10, .row 3 1 ((Rp.pts (·.fr) l).take p).length (ga e1 ((Rp.pts (·.fr) l).take p))), (11, .row 3 1 ((Rp.pts (·.to) l).take p).length (ga e1 ((Rp.pts (·.to) l).take p)))]) [] [] (fun (p : Nat) => 31 - p) (fun (p : Nat) => p ≤ 31) 0 (Nat.zero_le _) V.S_ (by (conv => whnf); exact ⟨⟨rfl, rfl, rfl, fun _ h => absurd h (Nat.not_lt_zero _)⟩, ⟨rfl, rfl, rfl, fun _ h => absurd h (Nat.not_lt_zero _)⟩, trivial⟩) (fun _ => ⟨rfl, rfl⟩) ?_; (conv => whnf); refine ⟨⟨rfl, rfl⟩, ?_⟩
  all_goals
    rintro p hp'
    by_cases hlp : p < 31
    · obtain ⟨cp, cq⟩ := v_rparty l p hlp hx
      have t1 := Rp.pts_take (·.fr) l hlp
      have t2 := Rp.pts_take (·.to) l hlp
      have t3 : ((Rp.pts (·.fr) l).take p).length = p := by rw [List.length_take, Rp.pts_len]; omega
      have t4 : ((Rp.pts (·.to) l).take p).length = p := by rw [List.length_take, Rp.pts_len]; omega
      repeat' ((conv => whnf); first | (refine V.NIf.yes ?_ ?_; · (omega; done)) | (refine V.NIf.no ?_ ?_; · (omega; done)) | refine V.NCond.mk ?_ | refine V.NPick.l ?_ | refine V.NIf.not_ ?_ | refine V.NIf.dec_ ?_ | refine V.a4 ?_ | refine V.a5 ?_ | refine V.NIf.mk (fun _ => ?_) (fun _ => ?_) | refine V.a7 ?_ | refine V.a8 ?_ | refine V.a9 ?_ | refine V.NBoth.mk ?_ ?_ | refine V.b1 ?_ | refine V.b2 ?_ | refine V.NTF.dec ?_ | refine V.b3 ?_ | refine V.b4 ?_ | ((first | refine V.Fn.k (cp) [1] rfl ?_ ?_ | refine V.Fn.q (cp) [1] rfl ?_ ?_ | refine V.Fn.a (cp) [1] rfl ?_ ?_); · exact V.D_) | ((first | refine V.Fn.k (cq) [1] rfl ?_ ?_ | refine V.Fn.q (cq) [1] rfl ?_ ?_ | refine V.Fn.a (cq) [1] rfl ?_ ?_); · exact V.D_) | (refine NApp.one (en := e1) (l := (Rp.pts (·.fr) l).take p) (x := Rp.pt (·.fr) l p) (by simp; omega) (by simp; omega) ?_) | (refine NApp.one (en := e1) (l := (Rp.pts (·.to) l).take p) (x := Rp.pt (·.to) l p) (by simp; omega) (by simp; omega) ?_) | (refine V.NDraw.any (by kernel_rfl) ?_) | fail)
      all_goals (conv => whnf)
      all_goals exact V.NBack.at_ (p + 1) [(10, 14), (11, 16)] (by omega) (by omega) V.S_ rfl ⟨ObLe.as_ t1, ObLe.as_ t2, trivial⟩ V.S_ V.S_
    obtain rfl : p = 31 := by omega
    rw [List.take_of_length_le (show (Rp.pts (·.fr) l).length ≤ 31 by rw [Rp.pts_len]; exact Nat.le_refl _), List.take_of_length_le (show (Rp.pts (·.to) l).length ≤ 31 by rw [Rp.pts_len]; exact Nat.le_refl _)]
    repeat' ((conv => whnf); first | (refine V.NIf.yes ?_ ?_; · (decide; done)) | (refine V.NIf.no ?_ ?_; · (decide; done)) | (refine V.NIf.yes ?_ ?_; · (exact hu; done)) | (refine V.NIf.no ?_ ?_; · (exact hu; done)) | (refine V.NIf.yes ?_ ?_; · (omega; done)) | (refine V.NIf.no ?_ ?_; · (omega; done)) | refine V.NCond.mk ?_ | refine V.NPick.l ?_ | refine V.NIf.not_ ?_ | refine V.NIf.dec_ ?_ | refine V.a4 ?_ | refine V.a5 ?_ | refine V.NIf.mk (fun _ => ?_) (fun _ => ?_) | refine V.a7 ?_ | refine V.a8 ?_ | refine V.a9 ?_ | refine V.NBoth.mk ?_ ?_ | refine V.b1 ?_ | refine V.b2 ?_ | refine V.NTF.dec ?_ | refine V.b3 ?_ | refine V.b4 ?_ | ((first | refine V.Fn.k (c7) [3] rfl ?_ ?_ | refine V.Fn.q (c7) [3] rfl ?_ ?_ | refine V.Fn.a (c7) [3] rfl ?_ ?_); · exact V.D_) | (refine V.NDraw.any (by kernel_rfl) ?_) | fail)
    all_goals (conv => whnf)
    all_goals refine V.NLoop.auto (fun (k : Nat) => [(38, .one (.val (.int .i64 k))), (36, .one (.val (.int .i64 (Rp.dn (l.take k))))), (37, .one (.val (.int .i64 (Rp.al (l.take k)))))]) (fun (k : Nat) => []) [] [] (fun (k : Nat) => l.length - k) (fun (k : Nat) => k ≤ l.length) 0 (Nat.zero_le _) V.S_ V.S_ (fun _ => ⟨rfl, rfl⟩) ?_; (conv => whnf); refine ⟨⟨rfl, rfl⟩, ?_⟩
    all_goals
      rintro k hk
      by_cases hlt : k < l.length
      · have o := F.ok_bounds (ok _ (getD_mem hlt))
        have s1 := Rp.dn_snoc hlt
        have s2 := Rp.al_snoc hlt
        have b1 := Rp.da_bd (l := l.take k) (fun f hf => ok f (List.mem_of_mem_take hf))
        rw [List.length_take] at b1
        repeat' ((conv => whnf); first | refine V.NCond.mk ?_ | refine V.NPick.l ?_ | refine V.NIf.not_ ?_ | refine V.NIf.dec_ ?_ | refine V.a4 ?_ | refine V.a5 ?_ | refine V.NIf.mk (fun _ => ?_) (fun _ => ?_) | refine V.a7 ?_ | refine V.a8 ?_ | refine V.a9 ?_ | refine V.NBoth.mk ?_ ?_ | refine V.b1 ?_ | refine V.b2 ?_ | refine V.NTF.dec ?_ | refine V.b3 ?_ | refine V.b4 ?_ | (refine NIdx.mk ⟨k, rfl, by omega, ?_⟩) | (refine V.NDraw.any (by kernel_rfl) ?_) | fail)
        all_goals (conv => whnf)
        all_goals exact V.NBack.at_ (k + 1) [] (by omega) (by omega) V.S_ rfl V.S_ V.S_ V.S_
      obtain rfl : k = l.length := by omega
      rw [List.take_length]
      by_cases hlen : l.length = 0
      · obtain ⟨ra, rb⟩ := Rp.rE_2 hx hlen
        rw [ra, rb]
        repeat' ((conv => whnf); first | (refine V.NIf.yes ?_ ?_; · (decide; done)) | (refine V.NIf.no ?_ ?_; · (decide; done)) | (refine V.NIf.yes ?_ ?_; · (omega; done)) | (refine V.NIf.no ?_ ?_; · (omega; done)) | (refine V.NIf.yes ?_ ?_; · (rfl; done)) | refine V.NCond.mk ?_ | refine V.NPick.l ?_ | refine V.NIf.not_ ?_ | refine V.NIf.dec_ ?_ | refine V.a4 ?_ | refine V.a5 ?_ | refine V.NIf.mk (fun _ => ?_) (fun _ => ?_) | refine V.a7 ?_ | refine V.a8 ?_ | refine V.a9 ?_ | refine V.NBoth.mk ?_ ?_ | refine V.b1 ?_ | refine V.b2 ?_ | refine V.NTF.dec ?_ | refine V.b3 ?_ | refine V.b4 ?_ | (first | refine V.Fn.k0 (v_repBegun) rfl ?_ | refine V.Fn.q0 (v_repBegun) rfl ?_ | refine V.Fn.a0 (v_repBegun) rfl ?_) | ((first | refine V.Fn.k (d1) [5, 9] rfl ?_ ?_ | refine V.Fn.q (d1) [5, 9] rfl ?_ ?_ | refine V.Fn.a (d1) [5, 9] rfl ?_ ?_); · exact V.D_) | ((first | refine V.Fn.k (d2) [6, 10] rfl ?_ ?_ | refine V.Fn.q (d2) [6, 10] rfl ?_ ?_ | refine V.Fn.a (d2) [6, 10] rfl ?_ ?_); · exact V.D_) | ((first | refine V.Fn.k (d3) [7, 11] rfl ?_ ?_ | refine V.Fn.q (d3) [7, 11] rfl ?_ ?_ | refine V.Fn.a (d3) [7, 11] rfl ?_ ?_); · exact V.D_) | ((first | refine V.Fn.k (d4) [8, 12] rfl ?_ ?_ | refine V.Fn.q (d4) [8, 12] rfl ?_ ?_ | refine V.Fn.a (d4) [8, 12] rfl ?_ ?_); · exact V.D_) | (refine V.NDraw.any (by kernel_rfl) ?_) | fail)
        all_goals (conv => whnf)
        all_goals first | exact ⟨true, rfl, iff_of_true (by first | rfl | decide) rfl⟩ | trace_state
      · obtain ⟨ra, rb⟩ := Rp.rE_3 hx hlen
        have bd := Rp.da_bd ok
        have rbd := (Rp.rate_bd ok (by omega) n60).1
        rw [ra, rb]
        repeat' ((conv => whnf); first | (refine NQuo.pos (by omega) (by omega) (by omega) ?_; rintro z rfl _ _) | (refine V.NIf.yes ?_ ?_; · (decide; done)) | (refine V.NIf.no ?_ ?_; · (decide; done)) | (refine V.NIf.yes ?_ ?_; · (omega; done)) | (refine V.NIf.no ?_ ?_; · (omega; done)) | (refine V.NIf.yes ?_ ?_; · (rfl; done)) | refine V.NCond.mk ?_ | refine V.NPick.l ?_ | refine V.NIf.not_ ?_ | refine V.NIf.dec_ ?_ | refine V.a4 ?_ | refine V.a5 ?_ | refine V.NIf.mk (fun _ => ?_) (fun _ => ?_) | refine V.a7 ?_ | refine V.a8 ?_ | refine V.a9 ?_ | refine V.NBoth.mk ?_ ?_ | refine V.b1 ?_ | refine V.b2 ?_ | refine V.NTF.dec ?_ | refine V.b3 ?_ | refine V.b4 ?_ | (first | refine V.Fn.k0 (v_repBegun) rfl ?_ | refine V.Fn.q0 (v_repBegun) rfl ?_ | refine V.Fn.a0 (v_repBegun) rfl ?_) | ((first | refine V.Fn.k (d1) [5, 9] rfl ?_ ?_ | refine V.Fn.q (d1) [5, 9] rfl ?_ ?_ | refine V.Fn.a (d1) [5, 9] rfl ?_ ?_); · exact V.D_) | ((first | refine V.Fn.k (d2) [6, 10] rfl ?_ ?_ | refine V.Fn.q (d2) [6, 10] rfl ?_ ?_ | refine V.Fn.a (d2) [6, 10] rfl ?_ ?_); · exact V.D_) | ((first | refine V.Fn.k (d3) [7, 11] rfl ?_ ?_ | refine V.Fn.q (d3) [7, 11] rfl ?_ ?_ | refine V.Fn.a (d3) [7, 11] rfl ?_ ?_); · exact V.D_) | ((first | refine V.Fn.k (d4) [8, 12] rfl ?_ ?_ | refine V.Fn.q (d4) [8, 12] rfl ?_ ?_ | refine V.Fn.a (d4) [8, 12] rfl ?_ ?_); · exact V.D_) | (refine V.NDraw.any (by kernel_rfl) ?_) | fail)
        all_goals (conv => whnf)
        all_goals first | exact ⟨true, rfl, iff_of_true (by first | rfl | decide) rfl⟩ | trace_state
end Go.Proofs.Ytdehibmofmfkbaa

namespace Go.Proofs.Ytdehibmofmfkbaa
open Go Go.RowKit V
set_option maxHeartbeats 4000000 in
theorem v_rt_nb (c : Cl) (l : List Fl) (td : Int) (b ps : List Int) (many : Int) (hc : c.hs.length ≤ 9223372036854775807) (hn : b.length ≤ 9223372036854775807) (hp : ps.length ≤ 9223372036854775807) (hw : ¬ Rp.aE c l td b = 0) (hx : F.checks l = 0) (hu : P.chks ps = 0 ∧ ¬ (0 ≤ many ∧ many ≤ 60)) : V.Fn Try.prog 3 (rpO c l b ps) [.agg [.val (.int .i64 c.we), .ref 0], .one (.ref 1), .one (.val (.int .i64 td)), .one (.ref 2), .one (.ref 3), .one (.val (.int .i64 many))] (.bool true) := by
  unfold rpO
  have n60 := F.checks_len (l := l) (by omega)
  have ok := Pn.all_ok hx
  have c1 := v_rages c l td b hc hn
  have c2 := v_parties l
  have c3 := v_top l ps many hp
  have c4 := v_rrate l
  have c5 := v_rreperr c l td b hc hn
  have c6 := v_rfchecks l
  have c7 := v_rprices ps hp
  have lx := Rp.fr_len l
  have ly := Rp.to_len l
  have d2 := v_sameints (Rp.frV l) (Rp.frV l) (by omega)
  have d3 := v_sameints (Rp.toV l) (Rp.toV l) (by omega)
  rw [show decide (Rp.frV l = Rp.frV l) = true from decide_eq_true rfl, show Rp.frV l = Rp.pts (·.fr) l from if_pos hx] at d2
  rw [show decide (Rp.toV l = Rp.toV l) = true from decide_eq_true rfl, show Rp.toV l = Rp.pts (·.to) l from if_pos hx] at d3
  rw [hx, show Rp.frV l = Rp.pts (·.fr) l from if_pos hx, show Rp.toV l = Rp.pts (·.to) l from if_pos hx] at c2
  rw [hx] at c6
  have d4 := v_sameints [] [] (by decide)
  rw [show decide (([] : List Int) = []) = true from rfl] at d4
  have te := Rp.tE_3 hx hu.1 hu.2
  rw [Rp.tV_no (by rw [te]; decide), te] at c3
  have hup := hu.1
  rw [hup] at c7
  rw [Rp.aV_no hw] at c1
  have d1 := v_sameints [] [] (by decide)
  rw [show decide (([] : List Int) = []) = true from rfl] at d1
  generalize Rp.aE c l td b = w at *
  refine V.Fn.mk_ V.Tok V.mixed Try.func3 rfl Try.ntmps3 (by kernel_rfl) rfl rfl ?_
  repeat' ((conv => whnf); first | (refine V.NIf.yes ?_ ?_; · (decide; done)) | (refine V.NIf.no ?_ ?_; · (decide; done)) | (refine V.NIf.yes ?_ ?_; · (exact hw; done)) | (refine V.NIf.no ?_ ?_; · (exact hw; done)) | (refine V.NIf.yes ?_ ?_; · (omega; done)) | (refine V.NIf.no ?_ ?_; · (omega; done)) | refine V.NCond.mk ?_ | refine V.NPick.l ?_ | refine V.NIf.not_ ?_ | refine V.NIf.dec_ ?_ | refine V.a4 ?_ | refine V.a5 ?_ | refine V.NIf.mk (fun _ => ?_) (fun _ => ?_) | refine V.a7 ?_ | refine V.a8 ?_ | refine V.a9 ?_ | refine V.NBoth.mk ?_ ?_ | refine V.b1 ?_ | refine V.b2 ?_ | refine V.NTF.dec ?_ | refine V.b3 ?_ | refine V.b4 ?_ | ((first | refine V.FnR.k_ (c1) [0, 1, 2] rfl ?_ ?_ | refine V.FnR.a_ (c1) [0, 1, 2] rfl ?_ ?_); · exact V.D_) | ((first | refine V.FnR.k_ (c2) [1] rfl ?_ ?_ | refine V.FnR.a_ (c2) [1] rfl ?_ ?_); · exact V.D_) | ((first | refine V.FnR.k_ (c3) [1, 3] rfl ?_ ?_ | refine V.FnR.a_ (c3) [1, 3] rfl ?_ ?_); · exact V.D_) | ((first | refine V.Fn.k (c4) [1] rfl ?_ ?_ | refine V.Fn.q (c4) [1] rfl ?_ ?_ | refine V.Fn.a (c4) [1] rfl ?_ ?_); · exact V.D_) | ((first | refine V.Fn.k (c5) [0, 1, 2] rfl ?_ ?_ | refine V.Fn.q (c5) [0, 1, 2] rfl ?_ ?_ | refine V.Fn.a (c5) [0, 1, 2] rfl ?_ ?_); · exact V.D_) | ((first | refine V.Fn.k (c6) [1] rfl ?_ ?_ | refine V.Fn.q (c6) [1] rfl ?_ ?_ | refine V.Fn.a (c6) [1] rfl ?_ ?_); · exact V.D_) | (refine V.NDraw.any (by kernel_rfl) ?_) | fail)
  all_goals (conv => whnf)
  all_goals refine V.NLoop.auto (fun (p : Nat) => [(35, .one (.val (.int .i64 p))), (27, .one (.ref 10)), (28, .one (.ref 11))]) (fun (p : Nat) => [(10, .row 3 1 ((Rp.pts (·.fr) l).take p).length (ga e1 ((Rp.pts (·.fr) l).take p))), (11, .row 3 1 ((Rp.pts (·.to) l).take p).length (ga e1 ((Rp.pts (·.to) l).take p)))]) [] [] (fun (p : Nat) => 31 - p) (fun (p : Nat) => p ≤ 31) 0 (Nat.zero_le _) V.S_ (by (conv => whnf); exact ⟨⟨rfl, rfl, rfl, fun _ h => absurd h (Nat.not_lt_zero _)⟩, ⟨rfl, rfl, rfl, fun _ h => absurd h (Nat.not_lt_zero _)⟩, trivial⟩) (fun _ => ⟨rfl, rfl⟩) ?_; (conv => whnf); refine ⟨⟨rfl, rfl⟩, ?_⟩
  all_goals
    rintro p hp'
    by_cases hlp : p < 31
    · obtain ⟨cp, cq⟩ := v_rparty l p hlp hx
      have t1 := Rp.pts_take (·.fr) l hlp
      have t2 := Rp.pts_take (·.to) l hlp
      have t3 : ((Rp.pts (·.fr) l).take p).length = p := by rw [List.length_take, Rp.pts_len]; omega
      have t4 : ((Rp.pts (·.to) l).take p).length = p := by rw [List.length_take, Rp.pts_len]; omega
      repeat' ((conv => whnf); first | (refine V.NIf.yes ?_ ?_; · (omega; done)) | (refine V.NIf.no ?_ ?_; · (omega; done)) | refine V.NCond.mk ?_ | refine V.NPick.l ?_ | refine V.NIf.not_ ?_ | refine V.NIf.dec_ ?_ | refine V.a4 ?_ | refine V.a5 ?_ | refine V.NIf.mk (fun _ => ?_) (fun _ => ?_) | refine V.a7 ?_ | refine V.a8 ?_ | refine V.a9 ?_ | refine V.NBoth.mk ?_ ?_ | refine V.b1 ?_ | refine V.b2 ?_ | refine V.NTF.dec ?_ | refine V.b3 ?_ | refine V.b4 ?_ | ((first | refine V.Fn.k (cp) [1] rfl ?_ ?_ | refine V.Fn.q (cp) [1] rfl ?_ ?_ | refine V.Fn.a (cp) [1] rfl ?_ ?_); · exact V.D_) | ((first | refine V.Fn.k (cq) [1] rfl ?_ ?_ | refine V.Fn.q (cq) [1] rfl ?_ ?_ | refine V.Fn.a (cq) [1] rfl ?_ ?_); · exact V.D_) | (refine NApp.one (en := e1) (l := (Rp.pts (·.fr) l).take p) (x := Rp.pt (·.fr) l p) (by simp; omega) (by simp; omega) ?_) | (refine NApp.one (en := e1) (l := (Rp.pts (·.to) l).take p) (x := Rp.pt (·.to) l p) (by simp; omega) (by simp; omega) ?_) | (refine V.NDraw.any (by kernel_rfl) ?_) | fail)
      all_goals (conv => whnf)
      all_goals exact V.NBack.at_ (p + 1) [(10, 14), (11, 16)] (by omega) (by omega) V.S_ rfl ⟨ObLe.as_ t1, ObLe.as_ t2, trivial⟩ V.S_ V.S_
    obtain rfl : p = 31 := by omega
    rw [List.take_of_length_le (show (Rp.pts (·.fr) l).length ≤ 31 by rw [Rp.pts_len]; exact Nat.le_refl _), List.take_of_length_le (show (Rp.pts (·.to) l).length ≤ 31 by rw [Rp.pts_len]; exact Nat.le_refl _)]
    repeat' ((conv => whnf); first | (refine V.NIf.yes ?_ ?_; · (decide; done)) | (refine V.NIf.no ?_ ?_; · (decide; done)) | (refine V.NIf.yes ?_ ?_; · (omega; done)) | (refine V.NIf.no ?_ ?_; · (omega; done)) | refine V.NCond.mk ?_ | refine V.NPick.l ?_ | refine V.NIf.not_ ?_ | refine V.NIf.dec_ ?_ | refine V.a4 ?_ | refine V.a5 ?_ | refine V.NIf.mk (fun _ => ?_) (fun _ => ?_) | refine V.a7 ?_ | refine V.a8 ?_ | refine V.a9 ?_ | refine V.NBoth.mk ?_ ?_ | refine V.b1 ?_ | refine V.b2 ?_ | refine V.NTF.dec ?_ | refine V.b3 ?_ | refine V.b4 ?_ | ((first | refine V.Fn.k (c7) [3] rfl ?_ ?_ | refine V.Fn.q (c7) [3] rfl ?_ ?_ | refine V.Fn.a (c7) [3] rfl ?_ ?_); · exact V.D_) | (refine V.NDraw.any (by kernel_rfl) ?_) | fail)
    all_goals (conv => whnf)
    all_goals refine V.NLoop.auto (fun (k : Nat) => [(38, .one (.val (.int .i64 k))), (36, .one (.val (.int .i64 (Rp.dn (l.take k))))), (37, .one (.val (.int .i64 (Rp.al (l.take k)))))]) (fun (k : Nat) => []) [] [] (fun (k : Nat) => l.length - k) (fun (k : Nat) => k ≤ l.length) 0 (Nat.zero_le _) V.S_ V.S_ (fun _ => ⟨rfl, rfl⟩) ?_; (conv => whnf); refine ⟨⟨rfl, rfl⟩, ?_⟩
    all_goals
      rintro k hk
      by_cases hlt : k < l.length
      · have o := F.ok_bounds (ok _ (getD_mem hlt))
        have s1 := Rp.dn_snoc hlt
        have s2 := Rp.al_snoc hlt
        have b1 := Rp.da_bd (l := l.take k) (fun f hf => ok f (List.mem_of_mem_take hf))
        rw [List.length_take] at b1
        repeat' ((conv => whnf); first | refine V.NCond.mk ?_ | refine V.NPick.l ?_ | refine V.NIf.not_ ?_ | refine V.NIf.dec_ ?_ | refine V.a4 ?_ | refine V.a5 ?_ | refine V.NIf.mk (fun _ => ?_) (fun _ => ?_) | refine V.a7 ?_ | refine V.a8 ?_ | refine V.a9 ?_ | refine V.NBoth.mk ?_ ?_ | refine V.b1 ?_ | refine V.b2 ?_ | refine V.NTF.dec ?_ | refine V.b3 ?_ | refine V.b4 ?_ | (refine NIdx.mk ⟨k, rfl, by omega, ?_⟩) | (refine V.NDraw.any (by kernel_rfl) ?_) | fail)
        all_goals (conv => whnf)
        all_goals exact V.NBack.at_ (k + 1) [] (by omega) (by omega) V.S_ rfl V.S_ V.S_ V.S_
      obtain rfl : k = l.length := by omega
      rw [List.take_length]
      by_cases hlen : l.length = 0
      · obtain ⟨ra, rb⟩ := Rp.rE_2 hx hlen
        rw [ra, rb]
        repeat' ((conv => whnf); first | (refine V.NIf.yes ?_ ?_; · (decide; done)) | (refine V.NIf.no ?_ ?_; · (decide; done)) | (refine V.NIf.yes ?_ ?_; · (omega; done)) | (refine V.NIf.no ?_ ?_; · (omega; done)) | (refine V.NIf.yes ?_ ?_; · (rfl; done)) | refine V.NCond.mk ?_ | refine V.NPick.l ?_ | refine V.NIf.not_ ?_ | refine V.NIf.dec_ ?_ | refine V.a4 ?_ | refine V.a5 ?_ | refine V.NIf.mk (fun _ => ?_) (fun _ => ?_) | refine V.a7 ?_ | refine V.a8 ?_ | refine V.a9 ?_ | refine V.NBoth.mk ?_ ?_ | refine V.b1 ?_ | refine V.b2 ?_ | refine V.NTF.dec ?_ | refine V.b3 ?_ | refine V.b4 ?_ | (first | refine V.Fn.k0 (v_repBegun) rfl ?_ | refine V.Fn.q0 (v_repBegun) rfl ?_ | refine V.Fn.a0 (v_repBegun) rfl ?_) | ((first | refine V.Fn.k (d1) [5, 9] rfl ?_ ?_ | refine V.Fn.q (d1) [5, 9] rfl ?_ ?_ | refine V.Fn.a (d1) [5, 9] rfl ?_ ?_); · exact V.D_) | ((first | refine V.Fn.k (d2) [6, 10] rfl ?_ ?_ | refine V.Fn.q (d2) [6, 10] rfl ?_ ?_ | refine V.Fn.a (d2) [6, 10] rfl ?_ ?_); · exact V.D_) | ((first | refine V.Fn.k (d3) [7, 11] rfl ?_ ?_ | refine V.Fn.q (d3) [7, 11] rfl ?_ ?_ | refine V.Fn.a (d3) [7, 11] rfl ?_ ?_); · exact V.D_) | ((first | refine V.Fn.k (d4) [8, 12] rfl ?_ ?_ | refine V.Fn.q (d4) [8, 12] rfl ?_ ?_ | refine V.Fn.a (d4) [8, 12] rfl ?_ ?_); · exact V.D_) | (refine V.NDraw.any (by kernel_rfl) ?_) | fail)
        all_goals (conv => whnf)
        all_goals first | exact ⟨true, rfl, iff_of_true (by first | rfl | decide) rfl⟩ | trace_state
      · obtain ⟨ra, rb⟩ := Rp.rE_3 hx hlen
        have bd := Rp.da_bd ok
        have rbd := (Rp.rate_bd ok (by omega) n60).1
        rw [ra, rb]
        repeat' ((conv => whnf); first | (refine NQuo.pos (by omega) (by omega) (by omega) ?_; rintro z rfl _ _) | (refine V.NIf.yes ?_ ?_; · (decide; done)) | (refine V.NIf.no ?_ ?_; · (decide; done)) | (refine V.NIf.yes ?_ ?_; · (omega; done)) | (refine V.NIf.no ?_ ?_; · (omega; done)) | (refine V.NIf.yes ?_ ?_; · (rfl; done)) | refine V.NCond.mk ?_ | refine V.NPick.l ?_ | refine V.NIf.not_ ?_ | refine V.NIf.dec_ ?_ | refine V.a4 ?_ | refine V.a5 ?_ | refine V.NIf.mk (fun _ => ?_) (fun _ => ?_) | refine V.a7 ?_ | refine V.a8 ?_ | refine V.a9 ?_ | refine V.NBoth.mk ?_ ?_ | refine V.b1 ?_ | refine V.b2 ?_ | refine V.NTF.dec ?_ | refine V.b3 ?_ | refine V.b4 ?_ | (first | refine V.Fn.k0 (v_repBegun) rfl ?_ | refine V.Fn.q0 (v_repBegun) rfl ?_ | refine V.Fn.a0 (v_repBegun) rfl ?_) | ((first | refine V.Fn.k (d1) [5, 9] rfl ?_ ?_ | refine V.Fn.q (d1) [5, 9] rfl ?_ ?_ | refine V.Fn.a (d1) [5, 9] rfl ?_ ?_); · exact V.D_) | ((first | refine V.Fn.k (d2) [6, 10] rfl ?_ ?_ | refine V.Fn.q (d2) [6, 10] rfl ?_ ?_ | refine V.Fn.a (d2) [6, 10] rfl ?_ ?_); · exact V.D_) | ((first | refine V.Fn.k (d3) [7, 11] rfl ?_ ?_ | refine V.Fn.q (d3) [7, 11] rfl ?_ ?_ | refine V.Fn.a (d3) [7, 11] rfl ?_ ?_); · exact V.D_) | ((first | refine V.Fn.k (d4) [8, 12] rfl ?_ ?_ | refine V.Fn.q (d4) [8, 12] rfl ?_ ?_ | refine V.Fn.a (d4) [8, 12] rfl ?_ ?_); · exact V.D_) | (refine V.NDraw.any (by kernel_rfl) ?_) | fail)
        all_goals (conv => whnf)
        all_goals first | exact ⟨true, rfl, iff_of_true (by first | rfl | decide) rfl⟩ | trace_state
end Go.Proofs.Ytdehibmofmfkbaa

namespace Go.Proofs.Ytdehibmofmfkbaa
open Go Go.RowKit V
set_option maxHeartbeats 4000000 in
theorem v_rt_nc (c : Cl) (l : List Fl) (td : Int) (b ps : List Int) (many : Int) (hc : c.hs.length ≤ 9223372036854775807) (hn : b.length ≤ 9223372036854775807) (hp : ps.length ≤ 9223372036854775807) (hw : ¬ Rp.aE c l td b = 0) (hx : F.checks l = 0) (hu : P.chks ps = 0 ∧ 0 ≤ many ∧ many ≤ 60) : V.Fn Try.prog 3 (rpO c l b ps) [.agg [.val (.int .i64 c.we), .ref 0], .one (.ref 1), .one (.val (.int .i64 td)), .one (.ref 2), .one (.ref 3), .one (.val (.int .i64 many))] (.bool true) := by
  unfold rpO
  have n60 := F.checks_len (l := l) (by omega)
  have ok := Pn.all_ok hx
  have c1 := v_rages c l td b hc hn
  have c2 := v_parties l
  have c3 := v_top l ps many hp
  have c4 := v_rrate l
  have c5 := v_rreperr c l td b hc hn
  have c6 := v_rfchecks l
  have c7 := v_rprices ps hp
  have lx := Rp.fr_len l
  have ly := Rp.to_len l
  have d2 := v_sameints (Rp.frV l) (Rp.frV l) (by omega)
  have d3 := v_sameints (Rp.toV l) (Rp.toV l) (by omega)
  rw [show decide (Rp.frV l = Rp.frV l) = true from decide_eq_true rfl, show Rp.frV l = Rp.pts (·.fr) l from if_pos hx] at d2
  rw [show decide (Rp.toV l = Rp.toV l) = true from decide_eq_true rfl, show Rp.toV l = Rp.pts (·.to) l from if_pos hx] at d3
  rw [hx, show Rp.frV l = Rp.pts (·.fr) l from if_pos hx, show Rp.toV l = Rp.pts (·.to) l from if_pos hx] at c2
  rw [hx] at c6
  have te := Rp.tE_4 hx hu.1 hu.2
  have hup := hu.1
  rw [Rp.tV_yes te, te] at c3
  rw [hup] at c7
  have c8 := v_rtop l ps many hx hu.1 hu.2
  have lt := Rp.tp_len ps l
  have d4 := v_sameints (((Rp.tp ps l).take many.toNat).map (·.id)) (((Rp.tp ps l).take many.toNat).map (·.id)) (by rw [List.length_map, List.length_take]; omega)
  rw [show decide (((Rp.tp ps l).take many.toNat).map (·.id) = ((Rp.tp ps l).take many.toNat).map (·.id)) = true from decide_eq_true rfl] at d4
  generalize ((Rp.tp ps l).take many.toNat).map (·.id) = T at *
  rw [Rp.aV_no hw] at c1
  have d1 := v_sameints [] [] (by decide)
  rw [show decide (([] : List Int) = []) = true from rfl] at d1
  generalize Rp.aE c l td b = w at *
  refine V.Fn.mk_ V.Tok V.mixed Try.func3 rfl Try.ntmps3 (by kernel_rfl) rfl rfl ?_
  repeat' ((conv => whnf); first | (refine V.NIf.yes ?_ ?_; · (decide; done)) | (refine V.NIf.no ?_ ?_; · (decide; done)) | (refine V.NIf.yes ?_ ?_; · (exact hw; done)) | (refine V.NIf.no ?_ ?_; · (exact hw; done)) | (refine V.NIf.yes ?_ ?_; · (omega; done)) | (refine V.NIf.no ?_ ?_; · (omega; done)) | refine V.NCond.mk ?_ | refine V.NPick.l ?_ | refine V.NIf.not_ ?_ | refine V.NIf.dec_ ?_ | refine V.a4 ?_ | refine V.a5 ?_ | refine V.NIf.mk (fun _ => ?_) (fun _ => ?_) | refine V.a7 ?_ | refine V.a8 ?_ | refine V.a9 ?_ | refine V.NBoth.mk ?_ ?_ | refine V.b1 ?_ | refine V.b2 ?_ | refine V.NTF.dec ?_ | refine V.b3 ?_ | refine V.b4 ?_ | ((first | refine V.FnR.k_ (c1) [0, 1, 2] rfl ?_ ?_ | refine V.FnR.a_ (c1) [0, 1, 2] rfl ?_ ?_); · exact V.D_) | ((first | refine V.FnR.k_ (c2) [1] rfl ?_ ?_ | refine V.FnR.a_ (c2) [1] rfl ?_ ?_); · exact V.D_) | ((first | refine V.FnR.k_ (c3) [1, 3] rfl ?_ ?_ | refine V.FnR.a_ (c3) [1, 3] rfl ?_ ?_); · exact V.D_) | ((first | refine V.Fn.k (c4) [1] rfl ?_ ?_ | refine V.Fn.q (c4) [1] rfl ?_ ?_ | refine V.Fn.a (c4) [1] rfl ?_ ?_); · exact V.D_) | ((first | refine V.Fn.k (c5) [0, 1, 2] rfl ?_ ?_ | refine V.Fn.q (c5) [0, 1, 2] rfl ?_ ?_ | refine V.Fn.a (c5) [0, 1, 2] rfl ?_ ?_); · exact V.D_) | ((first | refine V.Fn.k (c6) [1] rfl ?_ ?_ | refine V.Fn.q (c6) [1] rfl ?_ ?_ | refine V.Fn.a (c6) [1] rfl ?_ ?_); · exact V.D_) | (refine V.NDraw.any (by kernel_rfl) ?_) | fail)
  all_goals (conv => whnf)
  all_goals refine V.NLoop.auto (fun (p : Nat) => [(35, .one (.val (.int .i64 p))), (27, .one (.ref 10)), (28, .one (.ref 11))]) (fun (p : Nat) => [(10, .row 3 1 ((Rp.pts (·.fr) l).take p).length (ga e1 ((Rp.pts (·.fr) l).take p))), (11, .row 3 1 ((Rp.pts (·.to) l).take p).length (ga e1 ((Rp.pts (·.to) l).take p)))]) [] [] (fun (p : Nat) => 31 - p) (fun (p : Nat) => p ≤ 31) 0 (Nat.zero_le _) V.S_ (by (conv => whnf); exact ⟨⟨rfl, rfl, rfl, fun _ h => absurd h (Nat.not_lt_zero _)⟩, ⟨rfl, rfl, rfl, fun _ h => absurd h (Nat.not_lt_zero _)⟩, trivial⟩) (fun _ => ⟨rfl, rfl⟩) ?_; (conv => whnf); refine ⟨⟨rfl, rfl⟩, ?_⟩
  all_goals
    rintro p hp'
    by_cases hlp : p < 31
    · obtain ⟨cp, cq⟩ := v_rparty l p hlp hx
      have t1 := Rp.pts_take (·.fr) l hlp
      have t2 := Rp.pts_take (·.to) l hlp
      have t3 : ((Rp.pts (·.fr) l).take p).length = p := by rw [List.length_take, Rp.pts_len]; omega
      have t4 : ((Rp.pts (·.to) l).take p).length = p := by rw [List.length_take, Rp.pts_len]; omega
      repeat' ((conv => whnf); first | (refine V.NIf.yes ?_ ?_; · (omega; done)) | (refine V.NIf.no ?_ ?_; · (omega; done)) | refine V.NCond.mk ?_ | refine V.NPick.l ?_ | refine V.NIf.not_ ?_ | refine V.NIf.dec_ ?_ | refine V.a4 ?_ | refine V.a5 ?_ | refine V.NIf.mk (fun _ => ?_) (fun _ => ?_) | refine V.a7 ?_ | refine V.a8 ?_ | refine V.a9 ?_ | refine V.NBoth.mk ?_ ?_ | refine V.b1 ?_ | refine V.b2 ?_ | refine V.NTF.dec ?_ | refine V.b3 ?_ | refine V.b4 ?_ | ((first | refine V.Fn.k (cp) [1] rfl ?_ ?_ | refine V.Fn.q (cp) [1] rfl ?_ ?_ | refine V.Fn.a (cp) [1] rfl ?_ ?_); · exact V.D_) | ((first | refine V.Fn.k (cq) [1] rfl ?_ ?_ | refine V.Fn.q (cq) [1] rfl ?_ ?_ | refine V.Fn.a (cq) [1] rfl ?_ ?_); · exact V.D_) | (refine NApp.one (en := e1) (l := (Rp.pts (·.fr) l).take p) (x := Rp.pt (·.fr) l p) (by simp; omega) (by simp; omega) ?_) | (refine NApp.one (en := e1) (l := (Rp.pts (·.to) l).take p) (x := Rp.pt (·.to) l p) (by simp; omega) (by simp; omega) ?_) | (refine V.NDraw.any (by kernel_rfl) ?_) | fail)
      all_goals (conv => whnf)
      all_goals exact V.NBack.at_ (p + 1) [(10, 14), (11, 16)] (by omega) (by omega) V.S_ rfl ⟨ObLe.as_ t1, ObLe.as_ t2, trivial⟩ V.S_ V.S_
    obtain rfl : p = 31 := by omega
    rw [List.take_of_length_le (show (Rp.pts (·.fr) l).length ≤ 31 by rw [Rp.pts_len]; exact Nat.le_refl _), List.take_of_length_le (show (Rp.pts (·.to) l).length ≤ 31 by rw [Rp.pts_len]; exact Nat.le_refl _)]
    repeat' ((conv => whnf); first | (refine V.NIf.yes ?_ ?_; · (decide; done)) | (refine V.NIf.no ?_ ?_; · (decide; done)) | (refine V.NIf.yes ?_ ?_; · (omega; done)) | (refine V.NIf.no ?_ ?_; · (omega; done)) | refine V.NCond.mk ?_ | refine V.NPick.l ?_ | refine V.NIf.not_ ?_ | refine V.NIf.dec_ ?_ | refine V.a4 ?_ | refine V.a5 ?_ | refine V.NIf.mk (fun _ => ?_) (fun _ => ?_) | refine V.a7 ?_ | refine V.a8 ?_ | refine V.a9 ?_ | refine V.NBoth.mk ?_ ?_ | refine V.b1 ?_ | refine V.b2 ?_ | refine V.NTF.dec ?_ | refine V.b3 ?_ | refine V.b4 ?_ | ((first | refine V.FnR.k_ (c8) [1, 3] rfl ?_ ?_ | refine V.FnR.a_ (c8) [1, 3] rfl ?_ ?_); · exact V.D_) | ((first | refine V.Fn.k (c7) [3] rfl ?_ ?_ | refine V.Fn.q (c7) [3] rfl ?_ ?_ | refine V.Fn.a (c7) [3] rfl ?_ ?_); · exact V.D_) | (refine V.NDraw.any (by kernel_rfl) ?_) | fail)
    all_goals (conv => whnf)
    all_goals refine V.NLoop.auto (fun (k : Nat) => [(38, .one (.val (.int .i64 k))), (36, .one (.val (.int .i64 (Rp.dn (l.take k))))), (37, .one (.val (.int .i64 (Rp.al (l.take k)))))]) (fun (k : Nat) => []) [] [] (fun (k : Nat) => l.length - k) (fun (k : Nat) => k ≤ l.length) 0 (Nat.zero_le _) V.S_ V.S_ (fun _ => ⟨rfl, rfl⟩) ?_; (conv => whnf); refine ⟨⟨rfl, rfl⟩, ?_⟩
    all_goals
      rintro k hk
      by_cases hlt : k < l.length
      · have o := F.ok_bounds (ok _ (getD_mem hlt))
        have s1 := Rp.dn_snoc hlt
        have s2 := Rp.al_snoc hlt
        have b1 := Rp.da_bd (l := l.take k) (fun f hf => ok f (List.mem_of_mem_take hf))
        rw [List.length_take] at b1
        repeat' ((conv => whnf); first | refine V.NCond.mk ?_ | refine V.NPick.l ?_ | refine V.NIf.not_ ?_ | refine V.NIf.dec_ ?_ | refine V.a4 ?_ | refine V.a5 ?_ | refine V.NIf.mk (fun _ => ?_) (fun _ => ?_) | refine V.a7 ?_ | refine V.a8 ?_ | refine V.a9 ?_ | refine V.NBoth.mk ?_ ?_ | refine V.b1 ?_ | refine V.b2 ?_ | refine V.NTF.dec ?_ | refine V.b3 ?_ | refine V.b4 ?_ | (refine NIdx.mk ⟨k, rfl, by omega, ?_⟩) | (refine V.NDraw.any (by kernel_rfl) ?_) | fail)
        all_goals (conv => whnf)
        all_goals exact V.NBack.at_ (k + 1) [] (by omega) (by omega) V.S_ rfl V.S_ V.S_ V.S_
      obtain rfl : k = l.length := by omega
      rw [List.take_length]
      by_cases hlen : l.length = 0
      · obtain ⟨ra, rb⟩ := Rp.rE_2 hx hlen
        rw [ra, rb]
        repeat' ((conv => whnf); first | (refine V.NIf.yes ?_ ?_; · (decide; done)) | (refine V.NIf.no ?_ ?_; · (decide; done)) | (refine V.NIf.yes ?_ ?_; · (omega; done)) | (refine V.NIf.no ?_ ?_; · (omega; done)) | (refine V.NIf.yes ?_ ?_; · (rfl; done)) | refine V.NCond.mk ?_ | refine V.NPick.l ?_ | refine V.NIf.not_ ?_ | refine V.NIf.dec_ ?_ | refine V.a4 ?_ | refine V.a5 ?_ | refine V.NIf.mk (fun _ => ?_) (fun _ => ?_) | refine V.a7 ?_ | refine V.a8 ?_ | refine V.a9 ?_ | refine V.NBoth.mk ?_ ?_ | refine V.b1 ?_ | refine V.b2 ?_ | refine V.NTF.dec ?_ | refine V.b3 ?_ | refine V.b4 ?_ | (first | refine V.Fn.k0 (v_repBegun) rfl ?_ | refine V.Fn.q0 (v_repBegun) rfl ?_ | refine V.Fn.a0 (v_repBegun) rfl ?_) | ((first | refine V.Fn.k (d1) [5, 9] rfl ?_ ?_ | refine V.Fn.q (d1) [5, 9] rfl ?_ ?_ | refine V.Fn.a (d1) [5, 9] rfl ?_ ?_); · exact V.D_) | ((first | refine V.Fn.k (d2) [6, 10] rfl ?_ ?_ | refine V.Fn.q (d2) [6, 10] rfl ?_ ?_ | refine V.Fn.a (d2) [6, 10] rfl ?_ ?_); · exact V.D_) | ((first | refine V.Fn.k (d3) [7, 11] rfl ?_ ?_ | refine V.Fn.q (d3) [7, 11] rfl ?_ ?_ | refine V.Fn.a (d3) [7, 11] rfl ?_ ?_); · exact V.D_) | ((first | refine V.Fn.k (d4) [8, 13] rfl ?_ ?_ | refine V.Fn.q (d4) [8, 13] rfl ?_ ?_ | refine V.Fn.a (d4) [8, 13] rfl ?_ ?_); · exact V.D_) | (refine V.NDraw.any (by kernel_rfl) ?_) | fail)
        all_goals (conv => whnf)
        all_goals first | exact ⟨true, rfl, iff_of_true (by first | rfl | decide) rfl⟩ | trace_state
      · obtain ⟨ra, rb⟩ := Rp.rE_3 hx hlen
        have bd := Rp.da_bd ok
        have rbd := (Rp.rate_bd ok (by omega) n60).1
        rw [ra, rb]
        repeat' ((conv => whnf); first | (refine NQuo.pos (by omega) (by omega) (by omega) ?_; rintro z rfl _ _) | (refine V.NIf.yes ?_ ?_; · (decide; done)) | (refine V.NIf.no ?_ ?_; · (decide; done)) | (refine V.NIf.yes ?_ ?_; · (omega; done)) | (refine V.NIf.no ?_ ?_; · (omega; done)) | (refine V.NIf.yes ?_ ?_; · (rfl; done)) | refine V.NCond.mk ?_ | refine V.NPick.l ?_ | refine V.NIf.not_ ?_ | refine V.NIf.dec_ ?_ | refine V.a4 ?_ | refine V.a5 ?_ | refine V.NIf.mk (fun _ => ?_) (fun _ => ?_) | refine V.a7 ?_ | refine V.a8 ?_ | refine V.a9 ?_ | refine V.NBoth.mk ?_ ?_ | refine V.b1 ?_ | refine V.b2 ?_ | refine V.NTF.dec ?_ | refine V.b3 ?_ | refine V.b4 ?_ | (first | refine V.Fn.k0 (v_repBegun) rfl ?_ | refine V.Fn.q0 (v_repBegun) rfl ?_ | refine V.Fn.a0 (v_repBegun) rfl ?_) | ((first | refine V.Fn.k (d1) [5, 9] rfl ?_ ?_ | refine V.Fn.q (d1) [5, 9] rfl ?_ ?_ | refine V.Fn.a (d1) [5, 9] rfl ?_ ?_); · exact V.D_) | ((first | refine V.Fn.k (d2) [6, 10] rfl ?_ ?_ | refine V.Fn.q (d2) [6, 10] rfl ?_ ?_ | refine V.Fn.a (d2) [6, 10] rfl ?_ ?_); · exact V.D_) | ((first | refine V.Fn.k (d3) [7, 11] rfl ?_ ?_ | refine V.Fn.q (d3) [7, 11] rfl ?_ ?_ | refine V.Fn.a (d3) [7, 11] rfl ?_ ?_); · exact V.D_) | ((first | refine V.Fn.k (d4) [8, 13] rfl ?_ ?_ | refine V.Fn.q (d4) [8, 13] rfl ?_ ?_ | refine V.Fn.a (d4) [8, 13] rfl ?_ ?_); · exact V.D_) | (refine V.NDraw.any (by kernel_rfl) ?_) | fail)
        all_goals (conv => whnf)
        all_goals first | exact ⟨true, rfl, iff_of_true (by first | rfl | decide) rfl⟩ | trace_state
end Go.Proofs.Ytdehibmofmfkbaa

namespace Go.Proofs.Ytdehibmofmfkbaa
open Go Go.RowKit V
set_option maxHeartbeats 4000000 in
theorem v_rt_ya (c : Cl) (l : List Fl) (td : Int) (b ps : List Int) (many : Int) (hc : c.hs.length ≤ 9223372036854775807) (hn : b.length ≤ 9223372036854775807) (hp : ps.length ≤ 9223372036854775807) (hw : Rp.aE c l td b = 0) (hx : F.checks l = 0) (hu : ¬ P.chks ps = 0) : V.Fn Try.prog 3 (rpO c l b ps) [.agg [.val (.int .i64 c.we), .ref 0], .one (.ref 1), .one (.val (.int .i64 td)), .one (.ref 2), .one (.ref 3), .one (.val (.int .i64 many))] (.bool true) := by
  unfold rpO
  have n60 := F.checks_len (l := l) (by omega)
  have ok := Pn.all_ok hx
  have c1 := v_rages c l td b hc hn
  have c2 := v_parties l
  have c3 := v_top l ps many hp
  have c4 := v_rrate l
  have c5 := v_rreperr c l td b hc hn
  have c6 := v_rfchecks l
  have c7 := v_rprices ps hp
  have lx := Rp.fr_len l
  have ly := Rp.to_len l
  have d2 := v_sameints (Rp.frV l) (Rp.frV l) (by omega)
  have d3 := v_sameints (Rp.toV l) (Rp.toV l) (by omega)
  rw [show decide (Rp.frV l = Rp.frV l) = true from decide_eq_true rfl, show Rp.frV l = Rp.pts (·.fr) l from if_pos hx] at d2
  rw [show decide (Rp.toV l = Rp.toV l) = true from decide_eq_true rfl, show Rp.toV l = Rp.pts (·.to) l from if_pos hx] at d3
  rw [hx, show Rp.frV l = Rp.pts (·.fr) l from if_pos hx, show Rp.toV l = Rp.pts (·.to) l from if_pos hx] at c2
  rw [hx] at c6
  have d4 := v_sameints [] [] (by decide)
  rw [show decide (([] : List Int) = []) = true from rfl] at d4
  have te := Rp.tE_2 (many := many) hx hu
  rw [Rp.tV_no (by rw [te]; exact hu), te] at c3
  obtain ⟨h1, _, h3, h4⟩ := Rp.aE_ok hw
  have E := Rp.eE_ok h4
  have El := E.le
  have al' := Rp.ag_len c td b l
  have d1 := v_sameints (Rp.ag c td b l) (Rp.ag c td b l) (by omega)
  rw [show decide (Rp.ag c td b l = Rp.ag c td b l) = true from decide_eq_true rfl] at d1
  rw [Rp.aV_yes hw, hw] at c1
  rw [hw] at c5
  refine V.Fn.mk_ V.Tok V.mixed Try.func3 rfl Try.ntmps3 (by kernel_rfl) rfl rfl ?_
  repeat' ((conv => whnf); first | (refine V.NIf.yes ?_ ?_; · (decide; done)) | (refine V.NIf.no ?_ ?_; · (decide; done)) | (refine V.NIf.yes ?_ ?_; · (exact hw; done)) | (refine V.NIf.no ?_ ?_; · (exact hw; done)) | (refine V.NIf.yes ?_ ?_; · (omega; done)) | (refine V.NIf.no ?_ ?_; · (omega; done)) | refine V.NCond.mk ?_ | refine V.NPick.l ?_ | refine V.NIf.not_ ?_ | refine V.NIf.dec_ ?_ | refine V.a4 ?_ | refine V.a5 ?_ | refine V.NIf.mk (fun _ => ?_) (fun _ => ?_) | refine V.a7 ?_ | refine V.a8 ?_ | refine V.a9 ?_ | refine V.NBoth.mk ?_ ?_ | refine V.b1 ?_ | refine V.b2 ?_ | refine V.NTF.dec ?_ | refine V.b3 ?_ | refine V.b4 ?_ | ((first | refine V.FnR.k_ (c1) [0, 1, 2] rfl ?_ ?_ | refine V.FnR.a_ (c1) [0, 1, 2] rfl ?_ ?_); · exact V.D_) | ((first | refine V.FnR.k_ (c2) [1] rfl ?_ ?_ | refine V.FnR.a_ (c2) [1] rfl ?_ ?_); · exact V.D_) | ((first | refine V.FnR.k_ (c3) [1, 3] rfl ?_ ?_ | refine V.FnR.a_ (c3) [1, 3] rfl ?_ ?_); · exact V.D_) | ((first | refine V.Fn.k (c4) [1] rfl ?_ ?_ | refine V.Fn.q (c4) [1] rfl ?_ ?_ | refine V.Fn.a (c4) [1] rfl ?_ ?_); · exact V.D_) | ((first | refine V.Fn.k (c5) [0, 1, 2] rfl ?_ ?_ | refine V.Fn.q (c5) [0, 1, 2] rfl ?_ ?_ | refine V.Fn.a (c5) [0, 1, 2] rfl ?_ ?_); · exact V.D_) | ((first | refine V.Fn.k (c6) [1] rfl ?_ ?_ | refine V.Fn.q (c6) [1] rfl ?_ ?_ | refine V.Fn.a (c6) [1] rfl ?_ ?_); · exact V.D_) | (refine NMake.mk ⟨b.length + 1, b.length + 1, rfl, rfl, by omega, by omega, by first | omega | decide | (simp; done) | (simp; omega), ?_⟩) | (refine NIdx.mk ⟨b.length - 1, by omega, by omega, ?_⟩) | (refine V.NDraw.any (by kernel_rfl) ?_) | fail)
  all_goals (conv => whnf)
  all_goals refine V.NLoop.auto (fun (k : Nat) => [(32, .one (.val (.int .i64 k))), (31, .one (.val (.int .i64 (Rp.last b)))), (26, .one (.ref 13))]) (fun (k : Nat) => [(13, .row 3 1 (Rp.ag c td b (l.take k)).length (ga e1 (Rp.ag c td b (l.take k))))]) [] [] (fun (k : Nat) => l.length - k) (fun (k : Nat) => k ≤ l.length) 0 (Nat.zero_le _) (by (conv => whnf); exact ⟨rfl, congrArg (fun z => V.SV.one (V.At.val (Value.int .i64 z))) (by rp_last), rfl, trivial⟩) (by (conv => whnf); exact ⟨ObLe.rep 0 rfl (fun _ => rfl), trivial⟩) (fun _ => ⟨rfl, rfl⟩) ?_; (conv => whnf); refine ⟨⟨rfl, rfl⟩, ?_⟩
  all_goals
    rintro k hk
    by_cases hlt : k < l.length
    · have o := ok _ (getD_mem hlt)
      have ob := F.ok_bounds o
      have g1 := v_rfopen _ ⟨o.1, o.2.2.1⟩
      have sn := Rp.ag_snoc (c := c) (td := td) (b := b) hlt
      have al := Rp.ag_len c td b (l.take k)
      have ab := Rp.ag_bd0 c td b (l.take k)
      have y1 : Rp.Lt_ td (l.getD k default) → Rp.ag c td b (l.take (k + 1)) = (Rp.ag c td b (l.take k)).set (Rp.pc b (Ca.cnt c (l.getD k default).day td)) ((Rp.ag c td b (l.take k)).getD (Rp.pc b (Ca.cnt c (l.getD k default).day td)) default + 1) := fun q => sn.trans (if_pos q)
      have y2 : ¬ Rp.Lt_ td (l.getD k default) → Rp.ag c td b (l.take (k + 1)) = Rp.ag c td b (l.take k) := fun q => sn.trans (if_neg q)
      clear sn
      have lt : (0 < F.left (l.getD k default) ∧ (l.getD k default).day < td) ↔ Rp.Lt_ td (l.getD k default) := Iff.rfl
      by_cases hL : 0 < F.left (l.getD k default) ∧ (l.getD k default).day < td
      · have y1 := y1 (lt.1 hL)
        clear y2 lt
        have dy : Ca.Day (l.getD k default).day := by obtain ⟨⟨_, _, _, _, _, d, _⟩, _⟩ := id o; exact d
        have dtd : Ca.Day td := by have w := Ca.dchk td; unfold Ca.Day at *; omega
        have lb : 0 ≤ Rp.last b ∧ Rp.last b ≤ 3652058 := Rp.last_bd E
        have g2 := v_agecount c (l.getD k default).day td (Rp.last b) (Ca.chk_ok h1) dy dtd hL.2 lb
        have pcc := Rp.pc_cap E.up (Ca.cnt c (l.getD k default).day td)
        have pcl := Rp.pc_le E.up (Ca.cnt c (l.getD k default).day td)
        rw [← pcc] at y1 pcl
        clear pcc dy dtd lb
        generalize Rp.cap (Rp.last b) (Ca.cnt c (l.getD k default).day td) = n at *
        have fb : 0 ≤ (Rp.ag c td b (l.take k)).getD (Rp.pc b n) default ∧ (Rp.ag c td b (l.take k)).getD (Rp.pc b n) default ≤ 60 := by
          have := ab _ (getD_mem (k := Rp.pc b n) (by omega))
          rw [List.length_take] at this
          omega
        have pis := fun (p : Nat) (hp : p ≤ b.length) (a : ∀ j, j < p → b.getD j default ≤ n) (z : p < b.length → n < b.getD p default) => Rp.pc_is (n := n) hp a (fun j h1 h2 => by
          by_cases e : j = p
          · rw [e]; exact z (by omega)
          · have := Ca.srt_lt E.up (i := p) (j := j) (by omega) h2
            have := z (by omega)
            omega)
        have ul : (Rp.ag c td b (l.take (k + 1))).length = b.length + 1 := Rp.ag_len _ _ _ _
        generalize Rp.ag c td b (l.take k) = A at *
        repeat' ((conv => whnf); first | (refine V.NIf.yes ?_ ?_; · (decide; done)) | (refine V.NIf.no ?_ ?_; · (decide; done)) | (refine V.NIf.yes ?_ ?_; · (omega; done)) | (refine V.NIf.no ?_ ?_; · (omega; done)) | refine V.NCond.mk ?_ | refine V.NPick.l ?_ | refine V.NIf.not_ ?_ | refine V.NIf.dec_ ?_ | refine V.a4 ?_ | refine V.a5 ?_ | refine V.NIf.mk (fun _ => ?_) (fun _ => ?_) | refine V.a7 ?_ | refine V.a8 ?_ | refine V.a9 ?_ | refine V.NBoth.mk ?_ ?_ | refine V.b1 ?_ | refine V.b2 ?_ | refine V.NTF.dec ?_ | refine V.b3 ?_ | refine V.b4 ?_ | (refine NIdx.mk ⟨k, rfl, by omega, ?_⟩) | (first | refine V.Fn.k0 (g1) rfl ?_ | refine V.Fn.q0 (g1) rfl ?_ | refine V.Fn.a0 (g1) rfl ?_) | ((first | refine V.Fn.k (g2) [0] rfl ?_ ?_ | refine V.Fn.q (g2) [0] rfl ?_ ?_ | refine V.Fn.a (g2) [0] rfl ?_ ?_); · exact V.D_) | (refine V.NDraw.any (by kernel_rfl) ?_) | fail)
        all_goals (conv => whnf)
        all_goals refine V.NLoop.auto (fun (p : Nat) => [(34, .one (.val (.int .i64 p)))]) (fun (p : Nat) => []) [] [] (fun (p : Nat) => b.length - p) (fun (p : Nat) => p ≤ b.length ∧ ∀ j, j < p → b.getD j default ≤ n) 0 ⟨Nat.zero_le _, fun j h => absurd h (Nat.not_lt_zero _)⟩ V.S_ V.S_ (fun _ => ⟨rfl, rfl⟩) ?_; (conv => whnf); refine ⟨⟨rfl, rfl⟩, ?_⟩
        all_goals
          rintro p ⟨hp1, hp2⟩
          by_cases hs : p < b.length ∧ b.getD p default ≤ n
          · repeat' ((conv => whnf); first | (refine V.NIf.yes ?_ ?_; · (omega; done)) | (refine V.NIf.no ?_ ?_; · (omega; done)) | refine V.NCond.mk ?_ | refine V.NPick.l ?_ | refine V.NIf.not_ ?_ | refine V.NIf.dec_ ?_ | refine V.a4 ?_ | refine V.a5 ?_ | refine V.NIf.mk (fun _ => ?_) (fun _ => ?_) | refine V.a7 ?_ | refine V.a8 ?_ | refine V.a9 ?_ | refine V.NBoth.mk ?_ ?_ | refine V.b1 ?_ | refine V.b2 ?_ | refine V.NTF.dec ?_ | refine V.b3 ?_ | refine V.b4 ?_ | (refine NIdx.mk ⟨p, rfl, by omega, ?_⟩) | (refine V.NDraw.any (by kernel_rfl) ?_) | fail)
            all_goals (conv => whnf)
            all_goals exact V.NBack.at_ (p + 1) [] ⟨by omega, fun j hj => by
              by_cases e : j = p
              · rw [e]; exact hs.2
              · exact hp2 j (by omega)⟩ (by omega) V.S_ rfl V.S_ V.S_ V.S_
          · have pe := pis p hp1 hp2 (fun q => by omega)
            rw [pe] at y1 fb pcl
            clear pis pe hp2
            repeat' ((conv => whnf); first | (refine V.NIf.yes ?_ ?_; · (omega; done)) | (refine V.NIf.no ?_ ?_; · (omega; done)) | refine V.NCond.mk ?_ | refine V.NPick.l ?_ | refine V.NIf.not_ ?_ | refine V.NIf.dec_ ?_ | refine V.a4 ?_ | refine V.a5 ?_ | refine V.NIf.mk (fun _ => ?_) (fun _ => ?_) | refine V.a7 ?_ | refine V.a8 ?_ | refine V.a9 ?_ | refine V.NBoth.mk ?_ ?_ | refine V.b1 ?_ | refine V.b2 ?_ | refine V.NTF.dec ?_ | refine V.b3 ?_ | refine V.b4 ?_ | (refine NIdx.mk ⟨p, rfl, by omega, ?_⟩) | (refine NPut.to (en := e1) (A.getD p default + 1) rfl rfl ?_) | (refine V.NDraw.any (by kernel_rfl) ?_) | fail)
            all_goals (conv => whnf)
            all_goals exact V.NBack.at_ (k + 1) [] (by omega) (by omega) V.S_ rfl ⟨ObLe.is_ y1 (by omega), trivial⟩ V.S_ V.S_
      · have y2 := y2 (fun z => hL (lt.2 z))
        clear y1 lt ab
        repeat' ((conv => whnf); first | (refine V.NIf.yes ?_ ?_; · (decide; done)) | (refine V.NIf.no ?_ ?_; · (decide; done)) | (refine V.NIf.yes ?_ ?_; · (omega; done)) | (refine V.NIf.no ?_ ?_; · (omega; done)) | refine V.NCond.mk ?_ | refine V.NPick.l ?_ | refine V.NIf.not_ ?_ | refine V.NIf.dec_ ?_ | refine V.a4 ?_ | refine V.a5 ?_ | refine V.NIf.mk (fun _ => ?_) (fun _ => ?_) | refine V.a7 ?_ | refine V.a8 ?_ | refine V.a9 ?_ | refine V.NBoth.mk ?_ ?_ | refine V.b1 ?_ | refine V.b2 ?_ | refine V.NTF.dec ?_ | refine V.b3 ?_ | refine V.b4 ?_ | (refine NIdx.mk ⟨k, rfl, by omega, ?_⟩) | (first | refine V.Fn.k0 (g1) rfl ?_ | refine V.Fn.q0 (g1) rfl ?_ | refine V.Fn.a0 (g1) rfl ?_) | (refine V.NDraw.any (by kernel_rfl) ?_) | fail)
        all_goals (conv => whnf)
        all_goals exact V.NBack.at_ (k + 1) [] (by omega) (by omega) V.S_ rfl ⟨ObLe.as_ y2, trivial⟩ V.S_ V.S_
    obtain rfl : k = l.length := by omega
    rw [List.take_length]
    clear h1 h3 h4 E El
    repeat' ((conv => whnf); first | (refine V.NIf.yes ?_ ?_; · (decide; done)) | (refine V.NIf.no ?_ ?_; · (decide; done)) | (refine V.NIf.yes ?_ ?_; · (omega; done)) | (refine V.NIf.no ?_ ?_; · (omega; done)) | refine V.NCond.mk ?_ | refine V.NPick.l ?_ | refine V.NIf.not_ ?_ | refine V.NIf.dec_ ?_ | refine V.a4 ?_ | refine V.a5 ?_ | refine V.NIf.mk (fun _ => ?_) (fun _ => ?_) | refine V.a7 ?_ | refine V.a8 ?_ | refine V.a9 ?_ | refine V.NBoth.mk ?_ ?_ | refine V.b1 ?_ | refine V.b2 ?_ | refine V.NTF.dec ?_ | refine V.b3 ?_ | refine V.b4 ?_ | (refine V.NDraw.any (by kernel_rfl) ?_) | fail)
    (conv => whnf)
  all_goals refine V.NLoop.auto (fun (p : Nat) => [(35, .one (.val (.int .i64 p))), (27, .one (.ref 10)), (28, .one (.ref 11))]) (fun (p : Nat) => [(10, .row 3 1 ((Rp.pts (·.fr) l).take p).length (ga e1 ((Rp.pts (·.fr) l).take p))), (11, .row 3 1 ((Rp.pts (·.to) l).take p).length (ga e1 ((Rp.pts (·.to) l).take p)))]) [] [] (fun (p : Nat) => 31 - p) (fun (p : Nat) => p ≤ 31) 0 (Nat.zero_le _) V.S_ (by (conv => whnf); exact ⟨⟨rfl, rfl, rfl, fun _ h => absurd h (Nat.not_lt_zero _)⟩, ⟨rfl, rfl, rfl, fun _ h => absurd h (Nat.not_lt_zero _)⟩, trivial⟩) (fun _ => ⟨rfl, rfl⟩) ?_; (conv => whnf); refine ⟨⟨rfl, rfl⟩, ?_⟩
  all_goals
    rintro p hp'
    by_cases hlp : p < 31
    · obtain ⟨cp, cq⟩ := v_rparty l p hlp hx
      have t1 := Rp.pts_take (·.fr) l hlp
      have t2 := Rp.pts_take (·.to) l hlp
      have t3 : ((Rp.pts (·.fr) l).take p).length = p := by rw [List.length_take, Rp.pts_len]; omega
      have t4 : ((Rp.pts (·.to) l).take p).length = p := by rw [List.length_take, Rp.pts_len]; omega
      repeat' ((conv => whnf); first | (refine V.NIf.yes ?_ ?_; · (omega; done)) | (refine V.NIf.no ?_ ?_; · (omega; done)) | refine V.NCond.mk ?_ | refine V.NPick.l ?_ | refine V.NIf.not_ ?_ | refine V.NIf.dec_ ?_ | refine V.a4 ?_ | refine V.a5 ?_ | refine V.NIf.mk (fun _ => ?_) (fun _ => ?_) | refine V.a7 ?_ | refine V.a8 ?_ | refine V.a9 ?_ | refine V.NBoth.mk ?_ ?_ | refine V.b1 ?_ | refine V.b2 ?_ | refine V.NTF.dec ?_ | refine V.b3 ?_ | refine V.b4 ?_ | ((first | refine V.Fn.k (cp) [1] rfl ?_ ?_ | refine V.Fn.q (cp) [1] rfl ?_ ?_ | refine V.Fn.a (cp) [1] rfl ?_ ?_); · exact V.D_) | ((first | refine V.Fn.k (cq) [1] rfl ?_ ?_ | refine V.Fn.q (cq) [1] rfl ?_ ?_ | refine V.Fn.a (cq) [1] rfl ?_ ?_); · exact V.D_) | (refine NApp.one (en := e1) (l := (Rp.pts (·.fr) l).take p) (x := Rp.pt (·.fr) l p) (by simp; omega) (by simp; omega) ?_) | (refine NApp.one (en := e1) (l := (Rp.pts (·.to) l).take p) (x := Rp.pt (·.to) l p) (by simp; omega) (by simp; omega) ?_) | (refine V.NDraw.any (by kernel_rfl) ?_) | fail)
      all_goals (conv => whnf)
      all_goals exact V.NBack.at_ (p + 1) [(10, 15), (11, 17)] (by omega) (by omega) V.S_ rfl ⟨ObLe.as_ t1, ObLe.as_ t2, trivial⟩ V.S_ V.S_
    obtain rfl : p = 31 := by omega
    rw [List.take_of_length_le (show (Rp.pts (·.fr) l).length ≤ 31 by rw [Rp.pts_len]; exact Nat.le_refl _), List.take_of_length_le (show (Rp.pts (·.to) l).length ≤ 31 by rw [Rp.pts_len]; exact Nat.le_refl _)]
    repeat' ((conv => whnf); first | (refine V.NIf.yes ?_ ?_; · (decide; done)) | (refine V.NIf.no ?_ ?_; · (decide; done)) | (refine V.NIf.yes ?_ ?_; · (exact hu; done)) | (refine V.NIf.no ?_ ?_; · (exact hu; done)) | (refine V.NIf.yes ?_ ?_; · (omega; done)) | (refine V.NIf.no ?_ ?_; · (omega; done)) | refine V.NCond.mk ?_ | refine V.NPick.l ?_ | refine V.NIf.not_ ?_ | refine V.NIf.dec_ ?_ | refine V.a4 ?_ | refine V.a5 ?_ | refine V.NIf.mk (fun _ => ?_) (fun _ => ?_) | refine V.a7 ?_ | refine V.a8 ?_ | refine V.a9 ?_ | refine V.NBoth.mk ?_ ?_ | refine V.b1 ?_ | refine V.b2 ?_ | refine V.NTF.dec ?_ | refine V.b3 ?_ | refine V.b4 ?_ | ((first | refine V.Fn.k (c7) [3] rfl ?_ ?_ | refine V.Fn.q (c7) [3] rfl ?_ ?_ | refine V.Fn.a (c7) [3] rfl ?_ ?_); · exact V.D_) | (refine V.NDraw.any (by kernel_rfl) ?_) | fail)
    all_goals (conv => whnf)
    all_goals refine V.NLoop.auto (fun (k : Nat) => [(38, .one (.val (.int .i64 k))), (36, .one (.val (.int .i64 (Rp.dn (l.take k))))), (37, .one (.val (.int .i64 (Rp.al (l.take k)))))]) (fun (k : Nat) => []) [] [] (fun (k : Nat) => l.length - k) (fun (k : Nat) => k ≤ l.length) 0 (Nat.zero_le _) V.S_ V.S_ (fun _ => ⟨rfl, rfl⟩) ?_; (conv => whnf); refine ⟨⟨rfl, rfl⟩, ?_⟩
    all_goals
      rintro k hk
      by_cases hlt : k < l.length
      · have o := F.ok_bounds (ok _ (getD_mem hlt))
        have s1 := Rp.dn_snoc hlt
        have s2 := Rp.al_snoc hlt
        have b1 := Rp.da_bd (l := l.take k) (fun f hf => ok f (List.mem_of_mem_take hf))
        rw [List.length_take] at b1
        repeat' ((conv => whnf); first | refine V.NCond.mk ?_ | refine V.NPick.l ?_ | refine V.NIf.not_ ?_ | refine V.NIf.dec_ ?_ | refine V.a4 ?_ | refine V.a5 ?_ | refine V.NIf.mk (fun _ => ?_) (fun _ => ?_) | refine V.a7 ?_ | refine V.a8 ?_ | refine V.a9 ?_ | refine V.NBoth.mk ?_ ?_ | refine V.b1 ?_ | refine V.b2 ?_ | refine V.NTF.dec ?_ | refine V.b3 ?_ | refine V.b4 ?_ | (refine NIdx.mk ⟨k, rfl, by omega, ?_⟩) | (refine V.NDraw.any (by kernel_rfl) ?_) | fail)
        all_goals (conv => whnf)
        all_goals exact V.NBack.at_ (k + 1) [] (by omega) (by omega) V.S_ rfl V.S_ V.S_ V.S_
      obtain rfl : k = l.length := by omega
      rw [List.take_length]
      by_cases hlen : l.length = 0
      · obtain ⟨ra, rb⟩ := Rp.rE_2 hx hlen
        rw [ra, rb]
        repeat' ((conv => whnf); first | (refine V.NIf.yes ?_ ?_; · (decide; done)) | (refine V.NIf.no ?_ ?_; · (decide; done)) | (refine V.NIf.yes ?_ ?_; · (omega; done)) | (refine V.NIf.no ?_ ?_; · (omega; done)) | (refine V.NIf.yes ?_ ?_; · (rfl; done)) | refine V.NCond.mk ?_ | refine V.NPick.l ?_ | refine V.NIf.not_ ?_ | refine V.NIf.dec_ ?_ | refine V.a4 ?_ | refine V.a5 ?_ | refine V.NIf.mk (fun _ => ?_) (fun _ => ?_) | refine V.a7 ?_ | refine V.a8 ?_ | refine V.a9 ?_ | refine V.NBoth.mk ?_ ?_ | refine V.b1 ?_ | refine V.b2 ?_ | refine V.NTF.dec ?_ | refine V.b3 ?_ | refine V.b4 ?_ | (first | refine V.Fn.k0 (v_repBegun) rfl ?_ | refine V.Fn.q0 (v_repBegun) rfl ?_ | refine V.Fn.a0 (v_repBegun) rfl ?_) | ((first | refine V.Fn.k (d1) [5, 13] rfl ?_ ?_ | refine V.Fn.q (d1) [5, 13] rfl ?_ ?_ | refine V.Fn.a (d1) [5, 13] rfl ?_ ?_); · exact V.D_) | ((first | refine V.Fn.k (d2) [6, 10] rfl ?_ ?_ | refine V.Fn.q (d2) [6, 10] rfl ?_ ?_ | refine V.Fn.a (d2) [6, 10] rfl ?_ ?_); · exact V.D_) | ((first | refine V.Fn.k (d3) [7, 11] rfl ?_ ?_ | refine V.Fn.q (d3) [7, 11] rfl ?_ ?_ | refine V.Fn.a (d3) [7, 11] rfl ?_ ?_); · exact V.D_) | ((first | refine V.Fn.k (d4) [8, 12] rfl ?_ ?_ | refine V.Fn.q (d4) [8, 12] rfl ?_ ?_ | refine V.Fn.a (d4) [8, 12] rfl ?_ ?_); · exact V.D_) | (refine V.NDraw.any (by kernel_rfl) ?_) | fail)
        all_goals (conv => whnf)
        all_goals first | exact ⟨true, rfl, iff_of_true (by first | rfl | decide) rfl⟩ | trace_state
      · obtain ⟨ra, rb⟩ := Rp.rE_3 hx hlen
        have bd := Rp.da_bd ok
        have rbd := (Rp.rate_bd ok (by omega) n60).1
        rw [ra, rb]
        repeat' ((conv => whnf); first | (refine NQuo.pos (by omega) (by omega) (by omega) ?_; rintro z rfl _ _) | (refine V.NIf.yes ?_ ?_; · (decide; done)) | (refine V.NIf.no ?_ ?_; · (decide; done)) | (refine V.NIf.yes ?_ ?_; · (omega; done)) | (refine V.NIf.no ?_ ?_; · (omega; done)) | (refine V.NIf.yes ?_ ?_; · (rfl; done)) | refine V.NCond.mk ?_ | refine V.NPick.l ?_ | refine V.NIf.not_ ?_ | refine V.NIf.dec_ ?_ | refine V.a4 ?_ | refine V.a5 ?_ | refine V.NIf.mk (fun _ => ?_) (fun _ => ?_) | refine V.a7 ?_ | refine V.a8 ?_ | refine V.a9 ?_ | refine V.NBoth.mk ?_ ?_ | refine V.b1 ?_ | refine V.b2 ?_ | refine V.NTF.dec ?_ | refine V.b3 ?_ | refine V.b4 ?_ | (first | refine V.Fn.k0 (v_repBegun) rfl ?_ | refine V.Fn.q0 (v_repBegun) rfl ?_ | refine V.Fn.a0 (v_repBegun) rfl ?_) | ((first | refine V.Fn.k (d1) [5, 13] rfl ?_ ?_ | refine V.Fn.q (d1) [5, 13] rfl ?_ ?_ | refine V.Fn.a (d1) [5, 13] rfl ?_ ?_); · exact V.D_) | ((first | refine V.Fn.k (d2) [6, 10] rfl ?_ ?_ | refine V.Fn.q (d2) [6, 10] rfl ?_ ?_ | refine V.Fn.a (d2) [6, 10] rfl ?_ ?_); · exact V.D_) | ((first | refine V.Fn.k (d3) [7, 11] rfl ?_ ?_ | refine V.Fn.q (d3) [7, 11] rfl ?_ ?_ | refine V.Fn.a (d3) [7, 11] rfl ?_ ?_); · exact V.D_) | ((first | refine V.Fn.k (d4) [8, 12] rfl ?_ ?_ | refine V.Fn.q (d4) [8, 12] rfl ?_ ?_ | refine V.Fn.a (d4) [8, 12] rfl ?_ ?_); · exact V.D_) | (refine V.NDraw.any (by kernel_rfl) ?_) | fail)
        all_goals (conv => whnf)
        all_goals first | exact ⟨true, rfl, iff_of_true (by first | rfl | decide) rfl⟩ | trace_state
end Go.Proofs.Ytdehibmofmfkbaa

namespace Go.Proofs.Ytdehibmofmfkbaa
open Go Go.RowKit V
set_option maxHeartbeats 4000000 in
theorem v_rt_yb (c : Cl) (l : List Fl) (td : Int) (b ps : List Int) (many : Int) (hc : c.hs.length ≤ 9223372036854775807) (hn : b.length ≤ 9223372036854775807) (hp : ps.length ≤ 9223372036854775807) (hw : Rp.aE c l td b = 0) (hx : F.checks l = 0) (hu : P.chks ps = 0 ∧ ¬ (0 ≤ many ∧ many ≤ 60)) : V.Fn Try.prog 3 (rpO c l b ps) [.agg [.val (.int .i64 c.we), .ref 0], .one (.ref 1), .one (.val (.int .i64 td)), .one (.ref 2), .one (.ref 3), .one (.val (.int .i64 many))] (.bool true) := by
  unfold rpO
  have n60 := F.checks_len (l := l) (by omega)
  have ok := Pn.all_ok hx
  have c1 := v_rages c l td b hc hn
  have c2 := v_parties l
  have c3 := v_top l ps many hp
  have c4 := v_rrate l
  have c5 := v_rreperr c l td b hc hn
  have c6 := v_rfchecks l
  have c7 := v_rprices ps hp
  have lx := Rp.fr_len l
  have ly := Rp.to_len l
  have d2 := v_sameints (Rp.frV l) (Rp.frV l) (by omega)
  have d3 := v_sameints (Rp.toV l) (Rp.toV l) (by omega)
  rw [show decide (Rp.frV l = Rp.frV l) = true from decide_eq_true rfl, show Rp.frV l = Rp.pts (·.fr) l from if_pos hx] at d2
  rw [show decide (Rp.toV l = Rp.toV l) = true from decide_eq_true rfl, show Rp.toV l = Rp.pts (·.to) l from if_pos hx] at d3
  rw [hx, show Rp.frV l = Rp.pts (·.fr) l from if_pos hx, show Rp.toV l = Rp.pts (·.to) l from if_pos hx] at c2
  rw [hx] at c6
  have d4 := v_sameints [] [] (by decide)
  rw [show decide (([] : List Int) = []) = true from rfl] at d4
  have te := Rp.tE_3 hx hu.1 hu.2
  rw [Rp.tV_no (by rw [te]; decide), te] at c3
  have hup := hu.1
  rw [hup] at c7
  obtain ⟨h1, _, h3, h4⟩ := Rp.aE_ok hw
  have E := Rp.eE_ok h4
  have El := E.le
  have al' := Rp.ag_len c td b l
  have d1 := v_sameints (Rp.ag c td b l) (Rp.ag c td b l) (by omega)
  rw [show decide (Rp.ag c td b l = Rp.ag c td b l) = true from decide_eq_true rfl] at d1
  rw [Rp.aV_yes hw, hw] at c1
  rw [hw] at c5
  refine V.Fn.mk_ V.Tok V.mixed Try.func3 rfl Try.ntmps3 (by kernel_rfl) rfl rfl ?_
  repeat' ((conv => whnf); first | (refine V.NIf.yes ?_ ?_; · (decide; done)) | (refine V.NIf.no ?_ ?_; · (decide; done)) | (refine V.NIf.yes ?_ ?_; · (exact hw; done)) | (refine V.NIf.no ?_ ?_; · (exact hw; done)) | (refine V.NIf.yes ?_ ?_; · (omega; done)) | (refine V.NIf.no ?_ ?_; · (omega; done)) | refine V.NCond.mk ?_ | refine V.NPick.l ?_ | refine V.NIf.not_ ?_ | refine V.NIf.dec_ ?_ | refine V.a4 ?_ | refine V.a5 ?_ | refine V.NIf.mk (fun _ => ?_) (fun _ => ?_) | refine V.a7 ?_ | refine V.a8 ?_ | refine V.a9 ?_ | refine V.NBoth.mk ?_ ?_ | refine V.b1 ?_ | refine V.b2 ?_ | refine V.NTF.dec ?_ | refine V.b3 ?_ | refine V.b4 ?_ | ((first | refine V.FnR.k_ (c1) [0, 1, 2] rfl ?_ ?_ | refine V.FnR.a_ (c1) [0, 1, 2] rfl ?_ ?_); · exact V.D_) | ((first | refine V.FnR.k_ (c2) [1] rfl ?_ ?_ | refine V.FnR.a_ (c2) [1] rfl ?_ ?_); · exact V.D_) | ((first | refine V.FnR.k_ (c3) [1, 3] rfl ?_ ?_ | refine V.FnR.a_ (c3) [1, 3] rfl ?_ ?_); · exact V.D_) | ((first | refine V.Fn.k (c4) [1] rfl ?_ ?_ | refine V.Fn.q (c4) [1] rfl ?_ ?_ | refine V.Fn.a (c4) [1] rfl ?_ ?_); · exact V.D_) | ((first | refine V.Fn.k (c5) [0, 1, 2] rfl ?_ ?_ | refine V.Fn.q (c5) [0, 1, 2] rfl ?_ ?_ | refine V.Fn.a (c5) [0, 1, 2] rfl ?_ ?_); · exact V.D_) | ((first | refine V.Fn.k (c6) [1] rfl ?_ ?_ | refine V.Fn.q (c6) [1] rfl ?_ ?_ | refine V.Fn.a (c6) [1] rfl ?_ ?_); · exact V.D_) | (refine NMake.mk ⟨b.length + 1, b.length + 1, rfl, rfl, by omega, by omega, by first | omega | decide | (simp; done) | (simp; omega), ?_⟩) | (refine NIdx.mk ⟨b.length - 1, by omega, by omega, ?_⟩) | (refine V.NDraw.any (by kernel_rfl) ?_) | fail)
  all_goals (conv => whnf)
  all_goals refine V.NLoop.auto (fun (k : Nat) => [(32, .one (.val (.int .i64 k))), (31, .one (.val (.int .i64 (Rp.last b)))), (26, .one (.ref 13))]) (fun (k : Nat) => [(13, .row 3 1 (Rp.ag c td b (l.take k)).length (ga e1 (Rp.ag c td b (l.take k))))]) [] [] (fun (k : Nat) => l.length - k) (fun (k : Nat) => k ≤ l.length) 0 (Nat.zero_le _) (by (conv => whnf); exact ⟨rfl, congrArg (fun z => V.SV.one (V.At.val (Value.int .i64 z))) (by rp_last), rfl, trivial⟩) (by (conv => whnf); exact ⟨ObLe.rep 0 rfl (fun _ => rfl), trivial⟩) (fun _ => ⟨rfl, rfl⟩) ?_; (conv => whnf); refine ⟨⟨rfl, rfl⟩, ?_⟩
  all_goals
    rintro k hk
    by_cases hlt : k < l.length
    · have o := ok _ (getD_mem hlt)
      have ob := F.ok_bounds o
      have g1 := v_rfopen _ ⟨o.1, o.2.2.1⟩
      have sn := Rp.ag_snoc (c := c) (td := td) (b := b) hlt
      have al := Rp.ag_len c td b (l.take k)
      have ab := Rp.ag_bd0 c td b (l.take k)
      have y1 : Rp.Lt_ td (l.getD k default) → Rp.ag c td b (l.take (k + 1)) = (Rp.ag c td b (l.take k)).set (Rp.pc b (Ca.cnt c (l.getD k default).day td)) ((Rp.ag c td b (l.take k)).getD (Rp.pc b (Ca.cnt c (l.getD k default).day td)) default + 1) := fun q => sn.trans (if_pos q)
      have y2 : ¬ Rp.Lt_ td (l.getD k default) → Rp.ag c td b (l.take (k + 1)) = Rp.ag c td b (l.take k) := fun q => sn.trans (if_neg q)
      clear sn
      have lt : (0 < F.left (l.getD k default) ∧ (l.getD k default).day < td) ↔ Rp.Lt_ td (l.getD k default) := Iff.rfl
      by_cases hL : 0 < F.left (l.getD k default) ∧ (l.getD k default).day < td
      · have y1 := y1 (lt.1 hL)
        clear y2 lt
        have dy : Ca.Day (l.getD k default).day := by obtain ⟨⟨_, _, _, _, _, d, _⟩, _⟩ := id o; exact d
        have dtd : Ca.Day td := by have w := Ca.dchk td; unfold Ca.Day at *; omega
        have lb : 0 ≤ Rp.last b ∧ Rp.last b ≤ 3652058 := Rp.last_bd E
        have g2 := v_agecount c (l.getD k default).day td (Rp.last b) (Ca.chk_ok h1) dy dtd hL.2 lb
        have pcc := Rp.pc_cap E.up (Ca.cnt c (l.getD k default).day td)
        have pcl := Rp.pc_le E.up (Ca.cnt c (l.getD k default).day td)
        rw [← pcc] at y1 pcl
        clear pcc dy dtd lb
        generalize Rp.cap (Rp.last b) (Ca.cnt c (l.getD k default).day td) = n at *
        have fb : 0 ≤ (Rp.ag c td b (l.take k)).getD (Rp.pc b n) default ∧ (Rp.ag c td b (l.take k)).getD (Rp.pc b n) default ≤ 60 := by
          have := ab _ (getD_mem (k := Rp.pc b n) (by omega))
          rw [List.length_take] at this
          omega
        have pis := fun (p : Nat) (hp : p ≤ b.length) (a : ∀ j, j < p → b.getD j default ≤ n) (z : p < b.length → n < b.getD p default) => Rp.pc_is (n := n) hp a (fun j h1 h2 => by
          by_cases e : j = p
          · rw [e]; exact z (by omega)
          · have := Ca.srt_lt E.up (i := p) (j := j) (by omega) h2
            have := z (by omega)
            omega)
        have ul : (Rp.ag c td b (l.take (k + 1))).length = b.length + 1 := Rp.ag_len _ _ _ _
        generalize Rp.ag c td b (l.take k) = A at *
        repeat' ((conv => whnf); first | (refine V.NIf.yes ?_ ?_; · (decide; done)) | (refine V.NIf.no ?_ ?_; · (decide; done)) | (refine V.NIf.yes ?_ ?_; · (omega; done)) | (refine V.NIf.no ?_ ?_; · (omega; done)) | refine V.NCond.mk ?_ | refine V.NPick.l ?_ | refine V.NIf.not_ ?_ | refine V.NIf.dec_ ?_ | refine V.a4 ?_ | refine V.a5 ?_ | refine V.NIf.mk (fun _ => ?_) (fun _ => ?_) | refine V.a7 ?_ | refine V.a8 ?_ | refine V.a9 ?_ | refine V.NBoth.mk ?_ ?_ | refine V.b1 ?_ | refine V.b2 ?_ | refine V.NTF.dec ?_ | refine V.b3 ?_ | refine V.b4 ?_ | (refine NIdx.mk ⟨k, rfl, by omega, ?_⟩) | (first | refine V.Fn.k0 (g1) rfl ?_ | refine V.Fn.q0 (g1) rfl ?_ | refine V.Fn.a0 (g1) rfl ?_) | ((first | refine V.Fn.k (g2) [0] rfl ?_ ?_ | refine V.Fn.q (g2) [0] rfl ?_ ?_ | refine V.Fn.a (g2) [0] rfl ?_ ?_); · exact V.D_) | (refine V.NDraw.any (by kernel_rfl) ?_) | fail)
        all_goals (conv => whnf)
        all_goals refine V.NLoop.auto (fun (p : Nat) => [(34, .one (.val (.int .i64 p)))]) (fun (p : Nat) => []) [] [] (fun (p : Nat) => b.length - p) (fun (p : Nat) => p ≤ b.length ∧ ∀ j, j < p → b.getD j default ≤ n) 0 ⟨Nat.zero_le _, fun j h => absurd h (Nat.not_lt_zero _)⟩ V.S_ V.S_ (fun _ => ⟨rfl, rfl⟩) ?_; (conv => whnf); refine ⟨⟨rfl, rfl⟩, ?_⟩
        all_goals
          rintro p ⟨hp1, hp2⟩
          by_cases hs : p < b.length ∧ b.getD p default ≤ n
          · repeat' ((conv => whnf); first | (refine V.NIf.yes ?_ ?_; · (omega; done)) | (refine V.NIf.no ?_ ?_; · (omega; done)) | refine V.NCond.mk ?_ | refine V.NPick.l ?_ | refine V.NIf.not_ ?_ | refine V.NIf.dec_ ?_ | refine V.a4 ?_ | refine V.a5 ?_ | refine V.NIf.mk (fun _ => ?_) (fun _ => ?_) | refine V.a7 ?_ | refine V.a8 ?_ | refine V.a9 ?_ | refine V.NBoth.mk ?_ ?_ | refine V.b1 ?_ | refine V.b2 ?_ | refine V.NTF.dec ?_ | refine V.b3 ?_ | refine V.b4 ?_ | (refine NIdx.mk ⟨p, rfl, by omega, ?_⟩) | (refine V.NDraw.any (by kernel_rfl) ?_) | fail)
            all_goals (conv => whnf)
            all_goals exact V.NBack.at_ (p + 1) [] ⟨by omega, fun j hj => by
              by_cases e : j = p
              · rw [e]; exact hs.2
              · exact hp2 j (by omega)⟩ (by omega) V.S_ rfl V.S_ V.S_ V.S_
          · have pe := pis p hp1 hp2 (fun q => by omega)
            rw [pe] at y1 fb pcl
            clear pis pe hp2
            repeat' ((conv => whnf); first | (refine V.NIf.yes ?_ ?_; · (omega; done)) | (refine V.NIf.no ?_ ?_; · (omega; done)) | refine V.NCond.mk ?_ | refine V.NPick.l ?_ | refine V.NIf.not_ ?_ | refine V.NIf.dec_ ?_ | refine V.a4 ?_ | refine V.a5 ?_ | refine V.NIf.mk (fun _ => ?_) (fun _ => ?_) | refine V.a7 ?_ | refine V.a8 ?_ | refine V.a9 ?_ | refine V.NBoth.mk ?_ ?_ | refine V.b1 ?_ | refine V.b2 ?_ | refine V.NTF.dec ?_ | refine V.b3 ?_ | refine V.b4 ?_ | (refine NIdx.mk ⟨p, rfl, by omega, ?_⟩) | (refine NPut.to (en := e1) (A.getD p default + 1) rfl rfl ?_) | (refine V.NDraw.any (by kernel_rfl) ?_) | fail)
            all_goals (conv => whnf)
            all_goals exact V.NBack.at_ (k + 1) [] (by omega) (by omega) V.S_ rfl ⟨ObLe.is_ y1 (by omega), trivial⟩ V.S_ V.S_
      · have y2 := y2 (fun z => hL (lt.2 z))
        clear y1 lt ab
        repeat' ((conv => whnf); first | (refine V.NIf.yes ?_ ?_; · (decide; done)) | (refine V.NIf.no ?_ ?_; · (decide; done)) | (refine V.NIf.yes ?_ ?_; · (omega; done)) | (refine V.NIf.no ?_ ?_; · (omega; done)) | refine V.NCond.mk ?_ | refine V.NPick.l ?_ | refine V.NIf.not_ ?_ | refine V.NIf.dec_ ?_ | refine V.a4 ?_ | refine V.a5 ?_ | refine V.NIf.mk (fun _ => ?_) (fun _ => ?_) | refine V.a7 ?_ | refine V.a8 ?_ | refine V.a9 ?_ | refine V.NBoth.mk ?_ ?_ | refine V.b1 ?_ | refine V.b2 ?_ | refine V.NTF.dec ?_ | refine V.b3 ?_ | refine V.b4 ?_ | (refine NIdx.mk ⟨k, rfl, by omega, ?_⟩) | (first | refine V.Fn.k0 (g1) rfl ?_ | refine V.Fn.q0 (g1) rfl ?_ | refine V.Fn.a0 (g1) rfl ?_) | (refine V.NDraw.any (by kernel_rfl) ?_) | fail)
        all_goals (conv => whnf)
        all_goals exact V.NBack.at_ (k + 1) [] (by omega) (by omega) V.S_ rfl ⟨ObLe.as_ y2, trivial⟩ V.S_ V.S_
    obtain rfl : k = l.length := by omega
    rw [List.take_length]
    clear h1 h3 h4 E El
    repeat' ((conv => whnf); first | (refine V.NIf.yes ?_ ?_; · (decide; done)) | (refine V.NIf.no ?_ ?_; · (decide; done)) | (refine V.NIf.yes ?_ ?_; · (omega; done)) | (refine V.NIf.no ?_ ?_; · (omega; done)) | refine V.NCond.mk ?_ | refine V.NPick.l ?_ | refine V.NIf.not_ ?_ | refine V.NIf.dec_ ?_ | refine V.a4 ?_ | refine V.a5 ?_ | refine V.NIf.mk (fun _ => ?_) (fun _ => ?_) | refine V.a7 ?_ | refine V.a8 ?_ | refine V.a9 ?_ | refine V.NBoth.mk ?_ ?_ | refine V.b1 ?_ | refine V.b2 ?_ | refine V.NTF.dec ?_ | refine V.b3 ?_ | refine V.b4 ?_ | (refine V.NDraw.any (by kernel_rfl) ?_) | fail)
    (conv => whnf)
  all_goals refine V.NLoop.auto (fun (p : Nat) => [(35, .one (.val (.int .i64 p))), (27, .one (.ref 10)), (28, .one (.ref 11))]) (fun (p : Nat) => [(10, .row 3 1 ((Rp.pts (·.fr) l).take p).length (ga e1 ((Rp.pts (·.fr) l).take p))), (11, .row 3 1 ((Rp.pts (·.to) l).take p).length (ga e1 ((Rp.pts (·.to) l).take p)))]) [] [] (fun (p : Nat) => 31 - p) (fun (p : Nat) => p ≤ 31) 0 (Nat.zero_le _) V.S_ (by (conv => whnf); exact ⟨⟨rfl, rfl, rfl, fun _ h => absurd h (Nat.not_lt_zero _)⟩, ⟨rfl, rfl, rfl, fun _ h => absurd h (Nat.not_lt_zero _)⟩, trivial⟩) (fun _ => ⟨rfl, rfl⟩) ?_; (conv => whnf); refine ⟨⟨rfl, rfl⟩, ?_⟩
  all_goals
    rintro p hp'
    by_cases hlp : p < 31
    · obtain ⟨cp, cq⟩ := v_rparty l p hlp hx
      have t1 := Rp.pts_take (·.fr) l hlp
      have t2 := Rp.pts_take (·.to) l hlp
      have t3 : ((Rp.pts (·.fr) l).take p).length = p := by rw [List.length_take, Rp.pts_len]; omega
      have t4 : ((Rp.pts (·.to) l).take p).length = p := by rw [List.length_take, Rp.pts_len]; omega
      repeat' ((conv => whnf); first | (refine V.NIf.yes ?_ ?_; · (omega; done)) | (refine V.NIf.no ?_ ?_; · (omega; done)) | refine V.NCond.mk ?_ | refine V.NPick.l ?_ | refine V.NIf.not_ ?_ | refine V.NIf.dec_ ?_ | refine V.a4 ?_ | refine V.a5 ?_ | refine V.NIf.mk (fun _ => ?_) (fun _ => ?_) | refine V.a7 ?_ | refine V.a8 ?_ | refine V.a9 ?_ | refine V.NBoth.mk ?_ ?_ | refine V.b1 ?_ | refine V.b2 ?_ | refine V.NTF.dec ?_ | refine V.b3 ?_ | refine V.b4 ?_ | ((first | refine V.Fn.k (cp) [1] rfl ?_ ?_ | refine V.Fn.q (cp) [1] rfl ?_ ?_ | refine V.Fn.a (cp) [1] rfl ?_ ?_); · exact V.D_) | ((first | refine V.Fn.k (cq) [1] rfl ?_ ?_ | refine V.Fn.q (cq) [1] rfl ?_ ?_ | refine V.Fn.a (cq) [1] rfl ?_ ?_); · exact V.D_) | (refine NApp.one (en := e1) (l := (Rp.pts (·.fr) l).take p) (x := Rp.pt (·.fr) l p) (by simp; omega) (by simp; omega) ?_) | (refine NApp.one (en := e1) (l := (Rp.pts (·.to) l).take p) (x := Rp.pt (·.to) l p) (by simp; omega) (by simp; omega) ?_) | (refine V.NDraw.any (by kernel_rfl) ?_) | fail)
      all_goals (conv => whnf)
      all_goals exact V.NBack.at_ (p + 1) [(10, 15), (11, 17)] (by omega) (by omega) V.S_ rfl ⟨ObLe.as_ t1, ObLe.as_ t2, trivial⟩ V.S_ V.S_
    obtain rfl : p = 31 := by omega
    rw [List.take_of_length_le (show (Rp.pts (·.fr) l).length ≤ 31 by rw [Rp.pts_len]; exact Nat.le_refl _), List.take_of_length_le (show (Rp.pts (·.to) l).length ≤ 31 by rw [Rp.pts_len]; exact Nat.le_refl _)]
    repeat' ((conv => whnf); first | (refine V.NIf.yes ?_ ?_; · (decide; done)) | (refine V.NIf.no ?_ ?_; · (decide; done)) | (refine V.NIf.yes ?_ ?_; · (omega; done)) | (refine V.NIf.no ?_ ?_; · (omega; done)) | refine V.NCond.mk ?_ | refine V.NPick.l ?_ | refine V.NIf.not_ ?_ | refine V.NIf.dec_ ?_ | refine V.a4 ?_ | refine V.a5 ?_ | refine V.NIf.mk (fun _ => ?_) (fun _ => ?_) | refine V.a7 ?_ | refine V.a8 ?_ | refine V.a9 ?_ | refine V.NBoth.mk ?_ ?_ | refine V.b1 ?_ | refine V.b2 ?_ | refine V.NTF.dec ?_ | refine V.b3 ?_ | refine V.b4 ?_ | ((first | refine V.Fn.k (c7) [3] rfl ?_ ?_ | refine V.Fn.q (c7) [3] rfl ?_ ?_ | refine V.Fn.a (c7) [3] rfl ?_ ?_); · exact V.D_) | (refine V.NDraw.any (by kernel_rfl) ?_) | fail)
    all_goals (conv => whnf)
    all_goals refine V.NLoop.auto (fun (k : Nat) => [(38, .one (.val (.int .i64 k))), (36, .one (.val (.int .i64 (Rp.dn (l.take k))))), (37, .one (.val (.int .i64 (Rp.al (l.take k)))))]) (fun (k : Nat) => []) [] [] (fun (k : Nat) => l.length - k) (fun (k : Nat) => k ≤ l.length) 0 (Nat.zero_le _) V.S_ V.S_ (fun _ => ⟨rfl, rfl⟩) ?_; (conv => whnf); refine ⟨⟨rfl, rfl⟩, ?_⟩
    all_goals
      rintro k hk
      by_cases hlt : k < l.length
      · have o := F.ok_bounds (ok _ (getD_mem hlt))
        have s1 := Rp.dn_snoc hlt
        have s2 := Rp.al_snoc hlt
        have b1 := Rp.da_bd (l := l.take k) (fun f hf => ok f (List.mem_of_mem_take hf))
        rw [List.length_take] at b1
        repeat' ((conv => whnf); first | refine V.NCond.mk ?_ | refine V.NPick.l ?_ | refine V.NIf.not_ ?_ | refine V.NIf.dec_ ?_ | refine V.a4 ?_ | refine V.a5 ?_ | refine V.NIf.mk (fun _ => ?_) (fun _ => ?_) | refine V.a7 ?_ | refine V.a8 ?_ | refine V.a9 ?_ | refine V.NBoth.mk ?_ ?_ | refine V.b1 ?_ | refine V.b2 ?_ | refine V.NTF.dec ?_ | refine V.b3 ?_ | refine V.b4 ?_ | (refine NIdx.mk ⟨k, rfl, by omega, ?_⟩) | (refine V.NDraw.any (by kernel_rfl) ?_) | fail)
        all_goals (conv => whnf)
        all_goals exact V.NBack.at_ (k + 1) [] (by omega) (by omega) V.S_ rfl V.S_ V.S_ V.S_
      obtain rfl : k = l.length := by omega
      rw [List.take_length]
      by_cases hlen : l.length = 0
      · obtain ⟨ra, rb⟩ := Rp.rE_2 hx hlen
        rw [ra, rb]
        repeat' ((conv => whnf); first | (refine V.NIf.yes ?_ ?_; · (decide; done)) | (refine V.NIf.no ?_ ?_; · (decide; done)) | (refine V.NIf.yes ?_ ?_; · (omega; done)) | (refine V.NIf.no ?_ ?_; · (omega; done)) | (refine V.NIf.yes ?_ ?_; · (rfl; done)) | refine V.NCond.mk ?_ | refine V.NPick.l ?_ | refine V.NIf.not_ ?_ | refine V.NIf.dec_ ?_ | refine V.a4 ?_ | refine V.a5 ?_ | refine V.NIf.mk (fun _ => ?_) (fun _ => ?_) | refine V.a7 ?_ | refine V.a8 ?_ | refine V.a9 ?_ | refine V.NBoth.mk ?_ ?_ | refine V.b1 ?_ | refine V.b2 ?_ | refine V.NTF.dec ?_ | refine V.b3 ?_ | refine V.b4 ?_ | (first | refine V.Fn.k0 (v_repBegun) rfl ?_ | refine V.Fn.q0 (v_repBegun) rfl ?_ | refine V.Fn.a0 (v_repBegun) rfl ?_) | ((first | refine V.Fn.k (d1) [5, 13] rfl ?_ ?_ | refine V.Fn.q (d1) [5, 13] rfl ?_ ?_ | refine V.Fn.a (d1) [5, 13] rfl ?_ ?_); · exact V.D_) | ((first | refine V.Fn.k (d2) [6, 10] rfl ?_ ?_ | refine V.Fn.q (d2) [6, 10] rfl ?_ ?_ | refine V.Fn.a (d2) [6, 10] rfl ?_ ?_); · exact V.D_) | ((first | refine V.Fn.k (d3) [7, 11] rfl ?_ ?_ | refine V.Fn.q (d3) [7, 11] rfl ?_ ?_ | refine V.Fn.a (d3) [7, 11] rfl ?_ ?_); · exact V.D_) | ((first | refine V.Fn.k (d4) [8, 12] rfl ?_ ?_ | refine V.Fn.q (d4) [8, 12] rfl ?_ ?_ | refine V.Fn.a (d4) [8, 12] rfl ?_ ?_); · exact V.D_) | (refine V.NDraw.any (by kernel_rfl) ?_) | fail)
        all_goals (conv => whnf)
        all_goals first | exact ⟨true, rfl, iff_of_true (by first | rfl | decide) rfl⟩ | trace_state
      · obtain ⟨ra, rb⟩ := Rp.rE_3 hx hlen
        have bd := Rp.da_bd ok
        have rbd := (Rp.rate_bd ok (by omega) n60).1
        rw [ra, rb]
        repeat' ((conv => whnf); first | (refine NQuo.pos (by omega) (by omega) (by omega) ?_; rintro z rfl _ _) | (refine V.NIf.yes ?_ ?_; · (decide; done)) | (refine V.NIf.no ?_ ?_; · (decide; done)) | (refine V.NIf.yes ?_ ?_; · (omega; done)) | (refine V.NIf.no ?_ ?_; · (omega; done)) | (refine V.NIf.yes ?_ ?_; · (rfl; done)) | refine V.NCond.mk ?_ | refine V.NPick.l ?_ | refine V.NIf.not_ ?_ | refine V.NIf.dec_ ?_ | refine V.a4 ?_ | refine V.a5 ?_ | refine V.NIf.mk (fun _ => ?_) (fun _ => ?_) | refine V.a7 ?_ | refine V.a8 ?_ | refine V.a9 ?_ | refine V.NBoth.mk ?_ ?_ | refine V.b1 ?_ | refine V.b2 ?_ | refine V.NTF.dec ?_ | refine V.b3 ?_ | refine V.b4 ?_ | (first | refine V.Fn.k0 (v_repBegun) rfl ?_ | refine V.Fn.q0 (v_repBegun) rfl ?_ | refine V.Fn.a0 (v_repBegun) rfl ?_) | ((first | refine V.Fn.k (d1) [5, 13] rfl ?_ ?_ | refine V.Fn.q (d1) [5, 13] rfl ?_ ?_ | refine V.Fn.a (d1) [5, 13] rfl ?_ ?_); · exact V.D_) | ((first | refine V.Fn.k (d2) [6, 10] rfl ?_ ?_ | refine V.Fn.q (d2) [6, 10] rfl ?_ ?_ | refine V.Fn.a (d2) [6, 10] rfl ?_ ?_); · exact V.D_) | ((first | refine V.Fn.k (d3) [7, 11] rfl ?_ ?_ | refine V.Fn.q (d3) [7, 11] rfl ?_ ?_ | refine V.Fn.a (d3) [7, 11] rfl ?_ ?_); · exact V.D_) | ((first | refine V.Fn.k (d4) [8, 12] rfl ?_ ?_ | refine V.Fn.q (d4) [8, 12] rfl ?_ ?_ | refine V.Fn.a (d4) [8, 12] rfl ?_ ?_); · exact V.D_) | (refine V.NDraw.any (by kernel_rfl) ?_) | fail)
        all_goals (conv => whnf)
        all_goals first | exact ⟨true, rfl, iff_of_true (by first | rfl | decide) rfl⟩ | trace_state
end Go.Proofs.Ytdehibmofmfkbaa

namespace Go.Proofs.Ytdehibmofmfkbaa
open Go Go.RowKit V
set_option maxHeartbeats 4000000 in
theorem v_rt_yc (c : Cl) (l : List Fl) (td : Int) (b ps : List Int) (many : Int) (hc : c.hs.length ≤ 9223372036854775807) (hn : b.length ≤ 9223372036854775807) (hp : ps.length ≤ 9223372036854775807) (hw : Rp.aE c l td b = 0) (hx : F.checks l = 0) (hu : P.chks ps = 0 ∧ 0 ≤ many ∧ many ≤ 60) : V.Fn Try.prog 3 (rpO c l b ps) [.agg [.val (.int .i64 c.we), .ref 0], .one (.ref 1), .one (.val (.int .i64 td)), .one (.ref 2), .one (.ref 3), .one (.val (.int .i64 many))] (.bool true) := by
  unfold rpO
  have n60 := F.checks_len (l := l) (by omega)
  have ok := Pn.all_ok hx
  have c1 := v_rages c l td b hc hn
  have c2 := v_parties l
  have c3 := v_top l ps many hp
  have c4 := v_rrate l
  have c5 := v_rreperr c l td b hc hn
  have c6 := v_rfchecks l
  have c7 := v_rprices ps hp
  have lx := Rp.fr_len l
  have ly := Rp.to_len l
  have d2 := v_sameints (Rp.frV l) (Rp.frV l) (by omega)
  have d3 := v_sameints (Rp.toV l) (Rp.toV l) (by omega)
  rw [show decide (Rp.frV l = Rp.frV l) = true from decide_eq_true rfl, show Rp.frV l = Rp.pts (·.fr) l from if_pos hx] at d2
  rw [show decide (Rp.toV l = Rp.toV l) = true from decide_eq_true rfl, show Rp.toV l = Rp.pts (·.to) l from if_pos hx] at d3
  rw [hx, show Rp.frV l = Rp.pts (·.fr) l from if_pos hx, show Rp.toV l = Rp.pts (·.to) l from if_pos hx] at c2
  rw [hx] at c6
  have te := Rp.tE_4 hx hu.1 hu.2
  have hup := hu.1
  rw [Rp.tV_yes te, te] at c3
  rw [hup] at c7
  have c8 := v_rtop l ps many hx hu.1 hu.2
  have lt := Rp.tp_len ps l
  have d4 := v_sameints (((Rp.tp ps l).take many.toNat).map (·.id)) (((Rp.tp ps l).take many.toNat).map (·.id)) (by rw [List.length_map, List.length_take]; omega)
  rw [show decide (((Rp.tp ps l).take many.toNat).map (·.id) = ((Rp.tp ps l).take many.toNat).map (·.id)) = true from decide_eq_true rfl] at d4
  generalize ((Rp.tp ps l).take many.toNat).map (·.id) = T at *
  obtain ⟨h1, _, h3, h4⟩ := Rp.aE_ok hw
  have E := Rp.eE_ok h4
  have El := E.le
  have al' := Rp.ag_len c td b l
  have d1 := v_sameints (Rp.ag c td b l) (Rp.ag c td b l) (by omega)
  rw [show decide (Rp.ag c td b l = Rp.ag c td b l) = true from decide_eq_true rfl] at d1
  rw [Rp.aV_yes hw, hw] at c1
  rw [hw] at c5
  refine V.Fn.mk_ V.Tok V.mixed Try.func3 rfl Try.ntmps3 (by kernel_rfl) rfl rfl ?_
  repeat' ((conv => whnf); first | (refine V.NIf.yes ?_ ?_; · (decide; done)) | (refine V.NIf.no ?_ ?_; · (decide; done)) | (refine V.NIf.yes ?_ ?_; · (exact hw; done)) | (refine V.NIf.no ?_ ?_; · (exact hw; done)) | (refine V.NIf.yes ?_ ?_; · (omega; done)) | (refine V.NIf.no ?_ ?_; · (omega; done)) | refine V.NCond.mk ?_ | refine V.NPick.l ?_ | refine V.NIf.not_ ?_ | refine V.NIf.dec_ ?_ | refine V.a4 ?_ | refine V.a5 ?_ | refine V.NIf.mk (fun _ => ?_) (fun _ => ?_) | refine V.a7 ?_ | refine V.a8 ?_ | refine V.a9 ?_ | refine V.NBoth.mk ?_ ?_ | refine V.b1 ?_ | refine V.b2 ?_ | refine V.NTF.dec ?_ | refine V.b3 ?_ | refine V.b4 ?_ | ((first | refine V.FnR.k_ (c1) [0, 1, 2] rfl ?_ ?_ | refine V.FnR.a_ (c1) [0, 1, 2] rfl ?_ ?_); · exact V.D_) | ((first | refine V.FnR.k_ (c2) [1] rfl ?_ ?_ | refine V.FnR.a_ (c2) [1] rfl ?_ ?_); · exact V.D_) | ((first | refine V.FnR.k_ (c3) [1, 3] rfl ?_ ?_ | refine V.FnR.a_ (c3) [1, 3] rfl ?_ ?_); · exact V.D_) | ((first | refine V.Fn.k (c4) [1] rfl ?_ ?_ | refine V.Fn.q (c4) [1] rfl ?_ ?_ | refine V.Fn.a (c4) [1] rfl ?_ ?_); · exact V.D_) | ((first | refine V.Fn.k (c5) [0, 1, 2] rfl ?_ ?_ | refine V.Fn.q (c5) [0, 1, 2] rfl ?_ ?_ | refine V.Fn.a (c5) [0, 1, 2] rfl ?_ ?_); · exact V.D_) | ((first | refine V.Fn.k (c6) [1] rfl ?_ ?_ | refine V.Fn.q (c6) [1] rfl ?_ ?_ | refine V.Fn.a (c6) [1] rfl ?_ ?_); · exact V.D_) | (refine NMake.mk ⟨b.length + 1, b.length + 1, rfl, rfl, by omega, by omega, by first | omega | decide | (simp; done) | (simp; omega), ?_⟩) | (refine NIdx.mk ⟨b.length - 1, by omega, by omega, ?_⟩) | (refine V.NDraw.any (by kernel_rfl) ?_) | fail)
  all_goals (conv => whnf)
  all_goals refine V.NLoop.auto (fun (k : Nat) => [(32, .one (.val (.int .i64 k))), (31, .one (.val (.int .i64 (Rp.last b)))), (26, .one (.ref 13))]) (fun (k : Nat) => [(13, .row 3 1 (Rp.ag c td b (l.take k)).length (ga e1 (Rp.ag c td b (l.take k))))]) [] [] (fun (k : Nat) => l.length - k) (fun (k : Nat) => k ≤ l.length) 0 (Nat.zero_le _) (by (conv => whnf); exact ⟨rfl, congrArg (fun z => V.SV.one (V.At.val (Value.int .i64 z))) (by rp_last), rfl, trivial⟩) (by (conv => whnf); exact ⟨ObLe.rep 0 rfl (fun _ => rfl), trivial⟩) (fun _ => ⟨rfl, rfl⟩) ?_; (conv => whnf); refine ⟨⟨rfl, rfl⟩, ?_⟩
  all_goals
    rintro k hk
    by_cases hlt : k < l.length
    · have o := ok _ (getD_mem hlt)
      have ob := F.ok_bounds o
      have g1 := v_rfopen _ ⟨o.1, o.2.2.1⟩
      have sn := Rp.ag_snoc (c := c) (td := td) (b := b) hlt
      have al := Rp.ag_len c td b (l.take k)
      have ab := Rp.ag_bd0 c td b (l.take k)
      have y1 : Rp.Lt_ td (l.getD k default) → Rp.ag c td b (l.take (k + 1)) = (Rp.ag c td b (l.take k)).set (Rp.pc b (Ca.cnt c (l.getD k default).day td)) ((Rp.ag c td b (l.take k)).getD (Rp.pc b (Ca.cnt c (l.getD k default).day td)) default + 1) := fun q => sn.trans (if_pos q)
      have y2 : ¬ Rp.Lt_ td (l.getD k default) → Rp.ag c td b (l.take (k + 1)) = Rp.ag c td b (l.take k) := fun q => sn.trans (if_neg q)
      clear sn
      have lt : (0 < F.left (l.getD k default) ∧ (l.getD k default).day < td) ↔ Rp.Lt_ td (l.getD k default) := Iff.rfl
      by_cases hL : 0 < F.left (l.getD k default) ∧ (l.getD k default).day < td
      · have y1 := y1 (lt.1 hL)
        clear y2 lt
        have dy : Ca.Day (l.getD k default).day := by obtain ⟨⟨_, _, _, _, _, d, _⟩, _⟩ := id o; exact d
        have dtd : Ca.Day td := by have w := Ca.dchk td; unfold Ca.Day at *; omega
        have lb : 0 ≤ Rp.last b ∧ Rp.last b ≤ 3652058 := Rp.last_bd E
        have g2 := v_agecount c (l.getD k default).day td (Rp.last b) (Ca.chk_ok h1) dy dtd hL.2 lb
        have pcc := Rp.pc_cap E.up (Ca.cnt c (l.getD k default).day td)
        have pcl := Rp.pc_le E.up (Ca.cnt c (l.getD k default).day td)
        rw [← pcc] at y1 pcl
        clear pcc dy dtd lb
        generalize Rp.cap (Rp.last b) (Ca.cnt c (l.getD k default).day td) = n at *
        have fb : 0 ≤ (Rp.ag c td b (l.take k)).getD (Rp.pc b n) default ∧ (Rp.ag c td b (l.take k)).getD (Rp.pc b n) default ≤ 60 := by
          have := ab _ (getD_mem (k := Rp.pc b n) (by omega))
          rw [List.length_take] at this
          omega
        have pis := fun (p : Nat) (hp : p ≤ b.length) (a : ∀ j, j < p → b.getD j default ≤ n) (z : p < b.length → n < b.getD p default) => Rp.pc_is (n := n) hp a (fun j h1 h2 => by
          by_cases e : j = p
          · rw [e]; exact z (by omega)
          · have := Ca.srt_lt E.up (i := p) (j := j) (by omega) h2
            have := z (by omega)
            omega)
        have ul : (Rp.ag c td b (l.take (k + 1))).length = b.length + 1 := Rp.ag_len _ _ _ _
        generalize Rp.ag c td b (l.take k) = A at *
        repeat' ((conv => whnf); first | (refine V.NIf.yes ?_ ?_; · (decide; done)) | (refine V.NIf.no ?_ ?_; · (decide; done)) | (refine V.NIf.yes ?_ ?_; · (omega; done)) | (refine V.NIf.no ?_ ?_; · (omega; done)) | refine V.NCond.mk ?_ | refine V.NPick.l ?_ | refine V.NIf.not_ ?_ | refine V.NIf.dec_ ?_ | refine V.a4 ?_ | refine V.a5 ?_ | refine V.NIf.mk (fun _ => ?_) (fun _ => ?_) | refine V.a7 ?_ | refine V.a8 ?_ | refine V.a9 ?_ | refine V.NBoth.mk ?_ ?_ | refine V.b1 ?_ | refine V.b2 ?_ | refine V.NTF.dec ?_ | refine V.b3 ?_ | refine V.b4 ?_ | (refine NIdx.mk ⟨k, rfl, by omega, ?_⟩) | (first | refine V.Fn.k0 (g1) rfl ?_ | refine V.Fn.q0 (g1) rfl ?_ | refine V.Fn.a0 (g1) rfl ?_) | ((first | refine V.Fn.k (g2) [0] rfl ?_ ?_ | refine V.Fn.q (g2) [0] rfl ?_ ?_ | refine V.Fn.a (g2) [0] rfl ?_ ?_); · exact V.D_) | (refine V.NDraw.any (by kernel_rfl) ?_) | fail)
        all_goals (conv => whnf)
        all_goals refine V.NLoop.auto (fun (p : Nat) => [(34, .one (.val (.int .i64 p)))]) (fun (p : Nat) => []) [] [] (fun (p : Nat) => b.length - p) (fun (p : Nat) => p ≤ b.length ∧ ∀ j, j < p → b.getD j default ≤ n) 0 ⟨Nat.zero_le _, fun j h => absurd h (Nat.not_lt_zero _)⟩ V.S_ V.S_ (fun _ => ⟨rfl, rfl⟩) ?_; (conv => whnf); refine ⟨⟨rfl, rfl⟩, ?_⟩
        all_goals
          rintro p ⟨hp1, hp2⟩
          by_cases hs : p < b.length ∧ b.getD p default ≤ n
          · repeat' ((conv => whnf); first | (refine V.NIf.yes ?_ ?_; · (omega; done)) | (refine V.NIf.no ?_ ?_; · (omega; done)) | refine V.NCond.mk ?_ | refine V.NPick.l ?_ | refine V.NIf.not_ ?_ | refine V.NIf.dec_ ?_ | refine V.a4 ?_ | refine V.a5 ?_ | refine V.NIf.mk (fun _ => ?_) (fun _ => ?_) | refine V.a7 ?_ | refine V.a8 ?_ | refine V.a9 ?_ | refine V.NBoth.mk ?_ ?_ | refine V.b1 ?_ | refine V.b2 ?_ | refine V.NTF.dec ?_ | refine V.b3 ?_ | refine V.b4 ?_ | (refine NIdx.mk ⟨p, rfl, by omega, ?_⟩) | (refine V.NDraw.any (by kernel_rfl) ?_) | fail)
            all_goals (conv => whnf)
            all_goals exact V.NBack.at_ (p + 1) [] ⟨by omega, fun j hj => by
              by_cases e : j = p
              · rw [e]; exact hs.2
              · exact hp2 j (by omega)⟩ (by omega) V.S_ rfl V.S_ V.S_ V.S_
          · have pe := pis p hp1 hp2 (fun q => by omega)
            rw [pe] at y1 fb pcl
            clear pis pe hp2
            repeat' ((conv => whnf); first | (refine V.NIf.yes ?_ ?_; · (omega; done)) | (refine V.NIf.no ?_ ?_; · (omega; done)) | refine V.NCond.mk ?_ | refine V.NPick.l ?_ | refine V.NIf.not_ ?_ | refine V.NIf.dec_ ?_ | refine V.a4 ?_ | refine V.a5 ?_ | refine V.NIf.mk (fun _ => ?_) (fun _ => ?_) | refine V.a7 ?_ | refine V.a8 ?_ | refine V.a9 ?_ | refine V.NBoth.mk ?_ ?_ | refine V.b1 ?_ | refine V.b2 ?_ | refine V.NTF.dec ?_ | refine V.b3 ?_ | refine V.b4 ?_ | (refine NIdx.mk ⟨p, rfl, by omega, ?_⟩) | (refine NPut.to (en := e1) (A.getD p default + 1) rfl rfl ?_) | (refine V.NDraw.any (by kernel_rfl) ?_) | fail)
            all_goals (conv => whnf)
            all_goals exact V.NBack.at_ (k + 1) [] (by omega) (by omega) V.S_ rfl ⟨ObLe.is_ y1 (by omega), trivial⟩ V.S_ V.S_
      · have y2 := y2 (fun z => hL (lt.2 z))
        clear y1 lt ab
        repeat' ((conv => whnf); first | (refine V.NIf.yes ?_ ?_; · (decide; done)) | (refine V.NIf.no ?_ ?_; · (decide; done)) | (refine V.NIf.yes ?_ ?_; · (omega; done)) | (refine V.NIf.no ?_ ?_; · (omega; done)) | refine V.NCond.mk ?_ | refine V.NPick.l ?_ | refine V.NIf.not_ ?_ | refine V.NIf.dec_ ?_ | refine V.a4 ?_ | refine V.a5 ?_ | refine V.NIf.mk (fun _ => ?_) (fun _ => ?_) | refine V.a7 ?_ | refine V.a8 ?_ | refine V.a9 ?_ | refine V.NBoth.mk ?_ ?_ | refine V.b1 ?_ | refine V.b2 ?_ | refine V.NTF.dec ?_ | refine V.b3 ?_ | refine V.b4 ?_ | (refine NIdx.mk ⟨k, rfl, by omega, ?_⟩) | (first | refine V.Fn.k0 (g1) rfl ?_ | refine V.Fn.q0 (g1) rfl ?_ | refine V.Fn.a0 (g1) rfl ?_) | (refine V.NDraw.any (by kernel_rfl) ?_) | fail)
        all_goals (conv => whnf)
        all_goals exact V.NBack.at_ (k + 1) [] (by omega) (by omega) V.S_ rfl ⟨ObLe.as_ y2, trivial⟩ V.S_ V.S_
    obtain rfl : k = l.length := by omega
    rw [List.take_length]
    clear h1 h3 h4 E El
    repeat' ((conv => whnf); first | (refine V.NIf.yes ?_ ?_; · (decide; done)) | (refine V.NIf.no ?_ ?_; · (decide; done)) | (refine V.NIf.yes ?_ ?_; · (omega; done)) | (refine V.NIf.no ?_ ?_; · (omega; done)) | refine V.NCond.mk ?_ | refine V.NPick.l ?_ | refine V.NIf.not_ ?_ | refine V.NIf.dec_ ?_ | refine V.a4 ?_ | refine V.a5 ?_ | refine V.NIf.mk (fun _ => ?_) (fun _ => ?_) | refine V.a7 ?_ | refine V.a8 ?_ | refine V.a9 ?_ | refine V.NBoth.mk ?_ ?_ | refine V.b1 ?_ | refine V.b2 ?_ | refine V.NTF.dec ?_ | refine V.b3 ?_ | refine V.b4 ?_ | (refine V.NDraw.any (by kernel_rfl) ?_) | fail)
    (conv => whnf)
  all_goals refine V.NLoop.auto (fun (p : Nat) => [(35, .one (.val (.int .i64 p))), (27, .one (.ref 10)), (28, .one (.ref 11))]) (fun (p : Nat) => [(10, .row 3 1 ((Rp.pts (·.fr) l).take p).length (ga e1 ((Rp.pts (·.fr) l).take p))), (11, .row 3 1 ((Rp.pts (·.to) l).take p).length (ga e1 ((Rp.pts (·.to) l).take p)))]) [] [] (fun (p : Nat) => 31 - p) (fun (p : Nat) => p ≤ 31) 0 (Nat.zero_le _) V.S_ (by (conv => whnf); exact ⟨⟨rfl, rfl, rfl, fun _ h => absurd h (Nat.not_lt_zero _)⟩, ⟨rfl, rfl, rfl, fun _ h => absurd h (Nat.not_lt_zero _)⟩, trivial⟩) (fun _ => ⟨rfl, rfl⟩) ?_; (conv => whnf); refine ⟨⟨rfl, rfl⟩, ?_⟩
  all_goals
    rintro p hp'
    by_cases hlp : p < 31
    · obtain ⟨cp, cq⟩ := v_rparty l p hlp hx
      have t1 := Rp.pts_take (·.fr) l hlp
      have t2 := Rp.pts_take (·.to) l hlp
      have t3 : ((Rp.pts (·.fr) l).take p).length = p := by rw [List.length_take, Rp.pts_len]; omega
      have t4 : ((Rp.pts (·.to) l).take p).length = p := by rw [List.length_take, Rp.pts_len]; omega
      repeat' ((conv => whnf); first | (refine V.NIf.yes ?_ ?_; · (omega; done)) | (refine V.NIf.no ?_ ?_; · (omega; done)) | refine V.NCond.mk ?_ | refine V.NPick.l ?_ | refine V.NIf.not_ ?_ | refine V.NIf.dec_ ?_ | refine V.a4 ?_ | refine V.a5 ?_ | refine V.NIf.mk (fun _ => ?_) (fun _ => ?_) | refine V.a7 ?_ | refine V.a8 ?_ | refine V.a9 ?_ | refine V.NBoth.mk ?_ ?_ | refine V.b1 ?_ | refine V.b2 ?_ | refine V.NTF.dec ?_ | refine V.b3 ?_ | refine V.b4 ?_ | ((first | refine V.Fn.k (cp) [1] rfl ?_ ?_ | refine V.Fn.q (cp) [1] rfl ?_ ?_ | refine V.Fn.a (cp) [1] rfl ?_ ?_); · exact V.D_) | ((first | refine V.Fn.k (cq) [1] rfl ?_ ?_ | refine V.Fn.q (cq) [1] rfl ?_ ?_ | refine V.Fn.a (cq) [1] rfl ?_ ?_); · exact V.D_) | (refine NApp.one (en := e1) (l := (Rp.pts (·.fr) l).take p) (x := Rp.pt (·.fr) l p) (by simp; omega) (by simp; omega) ?_) | (refine NApp.one (en := e1) (l := (Rp.pts (·.to) l).take p) (x := Rp.pt (·.to) l p) (by simp; omega) (by simp; omega) ?_) | (refine V.NDraw.any (by kernel_rfl) ?_) | fail)
      all_goals (conv => whnf)
      all_goals exact V.NBack.at_ (p + 1) [(10, 15), (11, 17)] (by omega) (by omega) V.S_ rfl ⟨ObLe.as_ t1, ObLe.as_ t2, trivial⟩ V.S_ V.S_
    obtain rfl : p = 31 := by omega
    rw [List.take_of_length_le (show (Rp.pts (·.fr) l).length ≤ 31 by rw [Rp.pts_len]; exact Nat.le_refl _), List.take_of_length_le (show (Rp.pts (·.to) l).length ≤ 31 by rw [Rp.pts_len]; exact Nat.le_refl _)]
    repeat' ((conv => whnf); first | (refine V.NIf.yes ?_ ?_; · (decide; done)) | (refine V.NIf.no ?_ ?_; · (decide; done)) | (refine V.NIf.yes ?_ ?_; · (omega; done)) | (refine V.NIf.no ?_ ?_; · (omega; done)) | refine V.NCond.mk ?_ | refine V.NPick.l ?_ | refine V.NIf.not_ ?_ | refine V.NIf.dec_ ?_ | refine V.a4 ?_ | refine V.a5 ?_ | refine V.NIf.mk (fun _ => ?_) (fun _ => ?_) | refine V.a7 ?_ | refine V.a8 ?_ | refine V.a9 ?_ | refine V.NBoth.mk ?_ ?_ | refine V.b1 ?_ | refine V.b2 ?_ | refine V.NTF.dec ?_ | refine V.b3 ?_ | refine V.b4 ?_ | ((first | refine V.FnR.k_ (c8) [1, 3] rfl ?_ ?_ | refine V.FnR.a_ (c8) [1, 3] rfl ?_ ?_); · exact V.D_) | ((first | refine V.Fn.k (c7) [3] rfl ?_ ?_ | refine V.Fn.q (c7) [3] rfl ?_ ?_ | refine V.Fn.a (c7) [3] rfl ?_ ?_); · exact V.D_) | (refine V.NDraw.any (by kernel_rfl) ?_) | fail)
    all_goals (conv => whnf)
    all_goals refine V.NLoop.auto (fun (k : Nat) => [(38, .one (.val (.int .i64 k))), (36, .one (.val (.int .i64 (Rp.dn (l.take k))))), (37, .one (.val (.int .i64 (Rp.al (l.take k)))))]) (fun (k : Nat) => []) [] [] (fun (k : Nat) => l.length - k) (fun (k : Nat) => k ≤ l.length) 0 (Nat.zero_le _) V.S_ V.S_ (fun _ => ⟨rfl, rfl⟩) ?_; (conv => whnf); refine ⟨⟨rfl, rfl⟩, ?_⟩
    all_goals
      rintro k hk
      by_cases hlt : k < l.length
      · have o := F.ok_bounds (ok _ (getD_mem hlt))
        have s1 := Rp.dn_snoc hlt
        have s2 := Rp.al_snoc hlt
        have b1 := Rp.da_bd (l := l.take k) (fun f hf => ok f (List.mem_of_mem_take hf))
        rw [List.length_take] at b1
        repeat' ((conv => whnf); first | refine V.NCond.mk ?_ | refine V.NPick.l ?_ | refine V.NIf.not_ ?_ | refine V.NIf.dec_ ?_ | refine V.a4 ?_ | refine V.a5 ?_ | refine V.NIf.mk (fun _ => ?_) (fun _ => ?_) | refine V.a7 ?_ | refine V.a8 ?_ | refine V.a9 ?_ | refine V.NBoth.mk ?_ ?_ | refine V.b1 ?_ | refine V.b2 ?_ | refine V.NTF.dec ?_ | refine V.b3 ?_ | refine V.b4 ?_ | (refine NIdx.mk ⟨k, rfl, by omega, ?_⟩) | (refine V.NDraw.any (by kernel_rfl) ?_) | fail)
        all_goals (conv => whnf)
        all_goals exact V.NBack.at_ (k + 1) [] (by omega) (by omega) V.S_ rfl V.S_ V.S_ V.S_
      obtain rfl : k = l.length := by omega
      rw [List.take_length]
      by_cases hlen : l.length = 0
      · obtain ⟨ra, rb⟩ := Rp.rE_2 hx hlen
        rw [ra, rb]
        repeat' ((conv => whnf); first | (refine V.NIf.yes ?_ ?_; · (decide; done)) | (refine V.NIf.no ?_ ?_; · (decide; done)) | (refine V.NIf.yes ?_ ?_; · (omega; done)) | (refine V.NIf.no ?_ ?_; · (omega; done)) | (refine V.NIf.yes ?_ ?_; · (rfl; done)) | refine V.NCond.mk ?_ | refine V.NPick.l ?_ | refine V.NIf.not_ ?_ | refine V.NIf.dec_ ?_ | refine V.a4 ?_ | refine V.a5 ?_ | refine V.NIf.mk (fun _ => ?_) (fun _ => ?_) | refine V.a7 ?_ | refine V.a8 ?_ | refine V.a9 ?_ | refine V.NBoth.mk ?_ ?_ | refine V.b1 ?_ | refine V.b2 ?_ | refine V.NTF.dec ?_ | refine V.b3 ?_ | refine V.b4 ?_ | (first | refine V.Fn.k0 (v_repBegun) rfl ?_ | refine V.Fn.q0 (v_repBegun) rfl ?_ | refine V.Fn.a0 (v_repBegun) rfl ?_) | ((first | refine V.Fn.k (d1) [5, 13] rfl ?_ ?_ | refine V.Fn.q (d1) [5, 13] rfl ?_ ?_ | refine V.Fn.a (d1) [5, 13] rfl ?_ ?_); · exact V.D_) | ((first | refine V.Fn.k (d2) [6, 10] rfl ?_ ?_ | refine V.Fn.q (d2) [6, 10] rfl ?_ ?_ | refine V.Fn.a (d2) [6, 10] rfl ?_ ?_); · exact V.D_) | ((first | refine V.Fn.k (d3) [7, 11] rfl ?_ ?_ | refine V.Fn.q (d3) [7, 11] rfl ?_ ?_ | refine V.Fn.a (d3) [7, 11] rfl ?_ ?_); · exact V.D_) | ((first | refine V.Fn.k (d4) [8, 14] rfl ?_ ?_ | refine V.Fn.q (d4) [8, 14] rfl ?_ ?_ | refine V.Fn.a (d4) [8, 14] rfl ?_ ?_); · exact V.D_) | (refine V.NDraw.any (by kernel_rfl) ?_) | fail)
        all_goals (conv => whnf)
        all_goals first | exact ⟨true, rfl, iff_of_true (by first | rfl | decide) rfl⟩ | trace_state
      · obtain ⟨ra, rb⟩ := Rp.rE_3 hx hlen
        have bd := Rp.da_bd ok
        have rbd := (Rp.rate_bd ok (by omega) n60).1
        rw [ra, rb]
        repeat' ((conv => whnf); first | (refine NQuo.pos (by omega) (by omega) (by omega) ?_; rintro z rfl _ _) | (refine V.NIf.yes ?_ ?_; · (decide; done)) | (refine V.NIf.no ?_ ?_; · (decide; done)) | (refine V.NIf.yes ?_ ?_; · (omega; done)) | (refine V.NIf.no ?_ ?_; · (omega; done)) | (refine V.NIf.yes ?_ ?_; · (rfl; done)) | refine V.NCond.mk ?_ | refine V.NPick.l ?_ | refine V.NIf.not_ ?_ | refine V.NIf.dec_ ?_ | refine V.a4 ?_ | refine V.a5 ?_ | refine V.NIf.mk (fun _ => ?_) (fun _ => ?_) | refine V.a7 ?_ | refine V.a8 ?_ | refine V.a9 ?_ | refine V.NBoth.mk ?_ ?_ | refine V.b1 ?_ | refine V.b2 ?_ | refine V.NTF.dec ?_ | refine V.b3 ?_ | refine V.b4 ?_ | (first | refine V.Fn.k0 (v_repBegun) rfl ?_ | refine V.Fn.q0 (v_repBegun) rfl ?_ | refine V.Fn.a0 (v_repBegun) rfl ?_) | ((first | refine V.Fn.k (d1) [5, 13] rfl ?_ ?_ | refine V.Fn.q (d1) [5, 13] rfl ?_ ?_ | refine V.Fn.a (d1) [5, 13] rfl ?_ ?_); · exact V.D_) | ((first | refine V.Fn.k (d2) [6, 10] rfl ?_ ?_ | refine V.Fn.q (d2) [6, 10] rfl ?_ ?_ | refine V.Fn.a (d2) [6, 10] rfl ?_ ?_); · exact V.D_) | ((first | refine V.Fn.k (d3) [7, 11] rfl ?_ ?_ | refine V.Fn.q (d3) [7, 11] rfl ?_ ?_ | refine V.Fn.a (d3) [7, 11] rfl ?_ ?_); · exact V.D_) | ((first | refine V.Fn.k (d4) [8, 14] rfl ?_ ?_ | refine V.Fn.q (d4) [8, 14] rfl ?_ ?_ | refine V.Fn.a (d4) [8, 14] rfl ?_ ?_); · exact V.D_) | (refine V.NDraw.any (by kernel_rfl) ?_) | fail)
        all_goals (conv => whnf)
        all_goals first | exact ⟨true, rfl, iff_of_true (by first | rfl | decide) rfl⟩ | trace_state
end Go.Proofs.Ytdehibmofmfkbaa

namespace Go.Proofs.Ytdehibmofmfkbaa
open Go Go.RowKit Go.ChangeShapes Go.WideShapes Go.Deep V
theorem intCells : Try.prog.cellsOf 3 = 1 := by kernel_rfl
theorem open_il {H : Type} {enc : TypeId × Value → H} {W : World} {base : Nat} {spare : Nat → Bool} {held : Bool} {r : Reach} {b0 : Nat} {v : Value} {d : DataW H} {p : List MemPlace} (hv : Value.okWide Try.prog W r b0 22 v) (h : DataW.Trod enc Try.prog W base spare held 22 v d p) :
    ∃ l : List Int, ArrIs W v 1 l.length (ga e1 l) ∧ ∀ f ∈ l, (Lit.int .i64 f).wf = true :=
  open_ints_ Try.underlying22 Try.underlying3 intCells hv h
end Go.Proofs.Ytdehibmofmfkbaa

namespace Go.Proofs.Ytdehibmofmfkbaa
open Go Go.RowKit Go.ChangeShapes Go.WideShapes Go.Deep V
namespace V
section
variable {H : Type} {enc : TypeId × Value → H} {P : Program} {w : World} {base : Nat} {spare : Nat → Bool} {held : Bool}
theorem list_trod {α : Type} [Inhabited α] {en : α → List Value} {Wf : α → Prop} {t e s fuel : Nat} {cs : List Value} {x : DataW H × List MemPlace} (hu : P.underlying t = some (.slice e)) (hs : P.cellsOf e = s) (hs0 : 0 < s)
    (hel : ∀ fuel cs x, DataW.trod enc P w base spare held fuel e cs = some x → ∃ f : α, cs = en f ∧ Wf f) (hf : DataW.trod enc P w base spare held fuel t cs = some x) :
    ∃ v, cs = [v] ∧ ∃ l : List α, ArrIs w v s l.length (ga en l) ∧ ∀ f ∈ l, Wf f := by
  rcases Go.Deep.open_slice hu hf with ⟨hcs, _⟩ | ⟨a, len', cap', m, n, D, Pl, hcs, _, hl, hm, hmm, _, hi⟩
  · exact ⟨_, hcs, [], ⟨none, 0, rfl, by simp, by simp, fun k hk => absurd hk (by simp)⟩, by simp⟩
  · refine ⟨_, hcs, ?_⟩
    have hml : len' ≤ m := by rw [hmm]; split <;> omega
    have all : ∀ i, i < len' → ∃ f : α, (en f).length = s ∧ (∀ j u, (en f)[j]? = some u → w.cell? (a.add (i * s + j)) = some u) ∧ Wf f := by
      intro i hi'
      obtain ⟨cs', hc, ht'⟩ := hi i (by omega)
      rw [hs] at hc
      obtain ⟨f, e, wf⟩ := hel _ _ _ ht'
      obtain ⟨_, hcl, hat⟩ := World.cells?_some hc
      refine ⟨f, by rw [← e]; exact hcl, fun j u hu => ?_, wf⟩
      rw [← e] at hu
      have hj : j < s := by have := (List.getElem?_eq_some_iff.1 hu).1; omega
      have h1 := hat j hj
      rw [add_of_add] at h1
      rw [h1]; exact hu
    obtain ⟨l, hl2, hp⟩ := list_of len' all
    refine ⟨l, ⟨some a, cap', by rw [hl2], by unfold maxLen at hm; omega, by omega, fun k hk => ?_⟩, fun f hf' => ?_⟩
    · obtain ⟨e1, e2, _⟩ := hp k hk
      rw [ga_at hk]
      have h0 : (en l[k])[0]? = some ((en l[k])[0]'(by omega)) := List.getElem?_eq_getElem _
      have := cell_lt (e2 0 _ h0)
      rw [block_of_add] at this
      exact ⟨a, rfl, this, e1, e2⟩
    · obtain ⟨i, hi', rfl⟩ := List.getElem_of_mem hf'
      exact (hp i hi').2.2
end
end V
noncomputable def clFields : Array Field := (match Try.prog.underlying 24 with | some (.struct fs) => fs | _ => #[])
theorem clStruct : Try.prog.underlying 24 = some (.struct clFields) := by kernel_rfl
theorem clCells : Try.prog.cellsOf 24 = 2 := by kernel_rfl
theorem ilCells : Try.prog.cellsOf 22 = 1 := by kernel_rfl
theorem cl0 : (clFields[0]?).map (fun f => (f.type, f.offset)) = some (3, 0) := by kernel_rfl
theorem cl1 : (clFields[1]?).map (fun f => (f.type, f.offset)) = some (22, 1) := by kernel_rfl
theorem clSize : clFields.size = 2 := by kernel_rfl
def WfCl (c : Cl) : Prop := (Lit.int .i64 c.we).wf = true ∧ ∀ n ∈ c.hs, (Lit.int .i64 n).wf = true
theorem cl_of {H : Type} {enc : TypeId × Value → H} {w : World} {base : Nat} {spare : Nat → Bool} {held : Bool} {fuel : Nat} {cs : List Value} {x : DataW H × List MemPlace} (h : DataW.trod enc Try.prog w base spare held fuel 24 cs = some x) :
    ∃ (c : Cl) (v : Value), cs = [.int .i64 c.we, v] ∧ ArrIs w v 1 c.hs.length (ga e1 c.hs) ∧ WfCl c := by
  obtain ⟨xs, n, _, _, hl, hlen, hg⟩ := DataW.trod_struct clStruct h
  rw [clCells] at hl
  rw [clSize] at hlen
  match cs, hl with
  | [a, b], _ =>
    obtain ⟨f0, h0, e0⟩ := Option.map_eq_some_iff.1 cl0
    obtain ⟨f1, h1, e1'⟩ := Option.map_eq_some_iff.1 cl1
    injection e0 with t0 o0
    injection e1' with t1 o1
    have g0 := hg 0 f0 h0
    have g1 := hg 1 f1 h1
    rw [o0, t0, intCells, List.getElem?_eq_getElem (by omega)] at g0
    rw [o1, t1, ilCells, List.getElem?_eq_getElem (by omega)] at g1
    obtain ⟨m, e2, _, wf⟩ := DataW.trod_int Try.underlying3 g0
    obtain ⟨v, e3, l, hl, wl⟩ := V.list_trod (en := e1) (Wf := fun n => (Lit.int .i64 n).wf = true) Try.underlying22 intCells (by omega) (fun fuel cs x hx => by
      obtain ⟨m, e2, _, wf⟩ := DataW.trod_int Try.underlying3 hx
      exact ⟨m, e2, wf⟩) g1
    have e2 : a = .int .i64 m := by simpa using e2
    obtain rfl : b = v := by
      have e3 : [b] = [v] := e3
      injection e3
    subst e2
    exact ⟨⟨m, l⟩, _, rfl, hl, wf, wl⟩
theorem open_cl {H : Type} {enc : TypeId × Value → H} {W : World} {base : Nat} {spare : Nat → Bool} {held : Bool} {r : Reach} {b0 : Nat} {v : Value} {d : DataW H} {p : List MemPlace} (hv : Value.okWide Try.prog W r b0 24 v) (h : DataW.Trod enc Try.prog W base spare held 24 v d p) :
    ∃ (c : Cl) (u : Value), v = .agg #[.int .i64 c.we, u] ∧ ArrIs W u 1 c.hs.length (ga e1 c.hs) ∧ WfCl c := by
  obtain ⟨cs, rfl, _⟩ := okWide_struct clStruct hv
  obtain ⟨fuel, hf⟩ := h
  obtain ⟨c, u, e, h1, wf⟩ := cl_of hf
  refine ⟨c, u, ?_, h1, wf⟩
  obtain ⟨l⟩ := cs
  simp only [Value.cells] at e
  subst e
  rfl
end Go.Proofs.Ytdehibmofmfkbaa

namespace Go.Proofs.Ytdehibmofmfkbaa
open Go.RowKit Go.ChangeShapes Go.WideShapes Go.Deep V
noncomputable def failFields : Array Field := (match Try.prog.underlying 38 with | some (.struct fs) => fs | _ => #[])
theorem failStruct : Try.prog.underlying 38 = some (.struct failFields) := by kernel_rfl
theorem failOne : oneCellFields Try.prog failFields = true := by kernel_rfl
theorem failSize : failFields.size = 10 := by kernel_rfl
theorem failCells : Try.prog.cellsOf 38 = 10 := by kernel_rfl
theorem failInts : (List.range 10).all (fun j => (failFields[j]?).all (fun f => decide (f.type = 3))) = true := by kernel_rfl
theorem failInt (j : Nat) (f : Field) (h : failFields[j]? = some f) : Try.prog.underlying f.type = some (.int .i64) := by
  have hj : j < 10 := by have := (Array.getElem?_eq_some_iff.1 h).1; rw [failSize] at this; exact this
  have := List.all_eq_true.1 failInts j (List.mem_range.2 hj)
  rw [h] at this
  have e : f.type = 3 := by simpa using this
  rw [e]
  exact Try.underlying3
def WfF (f : Fl) : Prop := ∀ n ∈ [f.id, f.fr, f.to, f.cl, f.pa, f.day, f.un, f.de, f.bo, f.pd], (Lit.int .i64 n).wf = true
theorem fl_of {H : Type} {enc : TypeId × Value → H} {w : World} {base : Nat} {spare : Nat → Bool} {held : Bool} {fuel : Nat} {cs : List Value} {x : DataW H × List MemPlace} (h : DataW.trod enc Try.prog w base spare held fuel 38 cs = some x) :
    ∃ f : Fl, cs = (#[.int .i64 f.id, .int .i64 f.fr, .int .i64 f.to, .int .i64 f.cl, .int .i64 f.pa, .int .i64 f.day, .int .i64 f.un, .int .i64 f.de, .int .i64 f.bo, .int .i64 f.pd] : Array Value).toList ∧ WfF f := by
  obtain ⟨ns, e, hl, wf⟩ := ints_struct failStruct failOne (failCells.trans failSize.symm) failInt h
  rw [failSize] at hl
  match ns, hl with
  | [a, b, c, d, e', f, g, h', i, j], _ => exact ⟨⟨a, b, c, d, e', f, g, h', i, j⟩, by simpa using e, wf⟩
theorem open_fls {H : Type} {enc : TypeId × Value → H} {W : World} {base : Nat} {spare : Nat → Bool} {held : Bool} {r : Reach} {b0 : Nat} {v : Value} {d : DataW H} {p : List MemPlace} (hv : Value.okWide Try.prog W r b0 25 v) (h : DataW.Trod enc Try.prog W base spare held 25 v d p) :
    ∃ l : List Fl, ArrIs W v 10 l.length (ga encF l) ∧ ∀ f ∈ l, WfF f :=
  open_list Try.underlying25 failCells (by omega) (fun fuel cs x hx => by
    obtain ⟨f, e, wf⟩ := fl_of hx
    exact ⟨f, e, wf⟩) hv h
end Go.Proofs.Ytdehibmofmfkbaa

namespace Go.Proofs.Ytdehibmofmfkbaa
open Go Go.RowKit V
theorem Rp.sum_snoc {l : List Int} {k : Nat} (h : k < l.length) : M.sum (l.take (k + 1)) = M.sum (l.take k) + l.getD k default := by
  rw [List.take_succ_eq_append_getElem h, M.sum_append, ← getD_at h]; simp [M.sum]
theorem v_togR (l : List Int) (hl : l.length ≤ 9223372036854775807) (hs : ∀ k, -9223372036854775808 ≤ M.sum (l.take k) ∧ M.sum (l.take k) ≤ 9223372036854775807) : V.Fn Try.prog 26 [.arr 1 l.length (ga e1 l)] [.one (.ref 0)] (.int .i64 (M.sum l)) := by
  refine V.Fn.mk_ V.Tok V.mixed Try.func26 rfl Try.ntmps26 (by kernel_rfl) rfl rfl ?_
  repeat' ((conv => whnf); first | refine V.NCond.mk ?_ | refine V.NPick.l ?_ | refine V.NIf.not_ ?_ | refine V.NIf.dec_ ?_ | refine V.a4 ?_ | refine V.a5 ?_ | refine V.NIf.mk (fun _ => ?_) (fun _ => ?_) | refine V.a7 ?_ | refine V.a8 ?_ | refine V.a9 ?_ | refine V.NBoth.mk ?_ ?_ | refine V.b1 ?_ | refine V.b2 ?_ | refine V.NTF.dec ?_ | refine V.b3 ?_ | refine V.b4 ?_ | (refine V.NDraw.any (by kernel_rfl) ?_) | fail)
  (conv => whnf)
  refine V.NLoop.auto (fun (k : Nat) => [(4, .one (.val (.int .i64 k))), (3, .one (.val (.int .i64 (M.sum (l.take k)))))]) (fun (k : Nat) => []) [] [] (fun (k : Nat) => l.length - k) (fun (k : Nat) => k ≤ l.length) 0 (Nat.zero_le _) V.S_ V.S_ (fun _ => ⟨rfl, rfl⟩) ?_; (conv => whnf); refine ⟨⟨rfl, rfl⟩, ?_⟩
  rintro k hk
  have h1 := hs k
  have h2 := hs (k + 1)
  by_cases hlt : k < l.length
  · rw [Rp.sum_snoc hlt] at h2
    repeat' ((conv => whnf); first | refine V.NCond.mk ?_ | refine V.NPick.l ?_ | refine V.NIf.not_ ?_ | refine V.NIf.dec_ ?_ | refine V.a4 ?_ | refine V.a5 ?_ | refine V.NIf.mk (fun _ => ?_) (fun _ => ?_) | refine V.a7 ?_ | refine V.a8 ?_ | refine V.a9 ?_ | refine V.NBoth.mk ?_ ?_ | refine V.b1 ?_ | refine V.b2 ?_ | refine V.NTF.dec ?_ | refine V.b3 ?_ | refine V.b4 ?_ | (refine NIdx.mk ⟨k, rfl, by omega, ?_⟩) | (refine V.NDraw.any (by kernel_rfl) ?_) | fail)
    all_goals (conv => whnf)
    refine V.NBack.at_ (k + 1) [] (by omega) (by omega) ⟨V.S_, ?_, trivial⟩ rfl V.S_ V.S_ V.S_
    exact congrArg (fun z => V.SV.one (V.At.val (Value.int .i64 z))) (by rw [Rp.sum_snoc hlt])
  · obtain rfl : k = l.length := by omega
    repeat' ((conv => whnf); first | refine V.NCond.mk ?_ | refine V.NPick.l ?_ | refine V.NIf.not_ ?_ | refine V.NIf.dec_ ?_ | refine V.a4 ?_ | refine V.a5 ?_ | refine V.NIf.mk (fun _ => ?_) (fun _ => ?_) | refine V.a7 ?_ | refine V.a8 ?_ | refine V.a9 ?_ | refine V.NBoth.mk ?_ ?_ | refine V.b1 ?_ | refine V.b2 ?_ | refine V.NTF.dec ?_ | refine V.b3 ?_ | refine V.b4 ?_ | (refine V.NDraw.any (by kernel_rfl) ?_) | fail)
    exact congrArg (Value.int .i64) (by rw [List.take_length])
theorem Rp.all_chk {l : List Fl} (h : F.checks l = 0) : ∀ f ∈ l, F.chk f = 0 := by
  unfold F.checks at h
  split at h
  · cases h
  · exact fun f hf => ((F.ckFrom_ok h).1 f hf).1
theorem v_openR {l : List Fl} (h : F.checks l = 0) {k : Nat} (hk : k < l.length) : V.Fn Try.prog 25 [] [.agg [.val (.int .i64 (l.getD k default).id), .val (.int .i64 (l.getD k default).fr), .val (.int .i64 (l.getD k default).to), .val (.int .i64 (l.getD k default).cl), .val (.int .i64 (l.getD k default).pa), .val (.int .i64 (l.getD k default).day), .val (.int .i64 (l.getD k default).un), .val (.int .i64 (l.getD k default).de), .val (.int .i64 (l.getD k default).bo), .val (.int .i64 (l.getD k default).pd)]] (.tuple #[.int .i64 (F.left (l.getD k default)), .int .i64 0]) := by
  have c := Rp.all_chk h _ (getD_mem hk)
  have s := v_open (l.getD k default)
  rw [c, show F.opn (l.getD k default) = F.left (l.getD k default) from if_pos c] at s
  exact s
theorem Rp.pts_bd (g : Fl → Int) {l : List Fl} (ok : ∀ f ∈ l, F.Ok f) (n : l.length ≤ 60) : ∀ x ∈ Rp.pts g l, 0 ≤ x ∧ x ≤ 64424509440 := fun x hx => by
  unfold Rp.pts at hx
  obtain ⟨p, _, rfl⟩ := List.mem_map.1 hx
  have := Rp.pt_bd (g := g) ok p
  omega
end Go.Proofs.Ytdehibmofmfkbaa
