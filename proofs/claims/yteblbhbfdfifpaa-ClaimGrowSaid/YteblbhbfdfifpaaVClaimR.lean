/- What the document's functions on what papers bring answer. -/
import Derived.Test.YteblbhbfdfifpaaVClaim
namespace Go.Proofs.Yteblbhbfdfifpaa
open Go Go.RowKit V
set_option maxRecDepth 100000
set_option linter.unusedVariables false
theorem _root_.Go.Proofs.Yteblbhbfdfifpaa.V.NApp.lits {α : Type} [Inhabited α] {en : α → List Value} {l : List α} (m : List α) {rows : List (List Value)} {bytes : Nat} {K : Nat → (Nat → List Value) → Prop} (e : rows = m.map en) (h1 : (l.length + m.length) * bytes ≤ 140737488355328) (h2 : l.length + m.length ≤ 9223372036854775807) (hK : K (l ++ m).length (ga en (l ++ m))) :
    NApp l.length rows.length (ga en l) (listG rows) bytes K := by
  subst e
  refine ⟨⟨_, _, by simp, by simpa using h2, by simpa using h1, fun k hk => by rw [ga_at (by simp; omega), ga_at hk, List.getElem_append_left hk], fun k hk => ?_, hK⟩⟩
  simp at hk
  rw [ga_at (by simp; omega), List.getElem_append_right (by omega)]
  simp [listG, hk]
theorem rfo {f : Fl} (h : F.Ok f) : F.Kn f ∧ F.Pt f := ⟨h.1, h.2.2.1⟩
set_option maxHeartbeats 4000000 in
theorem v_rClaims (v : Ev) (fs : List Fl) : V.FnR Try.prog 15 [.arr 10 fs.length (ga encF fs)] [.agg [.val (.int .i64 v.pa), .val (.int .i64 v.ca), .val (.int .i64 v.gi), .val (.int .i64 v.fo)], .one (.ref 0)] (.tup [.one (.ref 1), .one (.ref 2), .one (.val (.int .i64 (C.xE v fs)))]) [.row 54 3 (C.dV v fs).length (ga encD (C.dV v fs)), .row 56 3 (C.pV v fs).length (ga encP (C.pV v fs))] := by
  have x1 := @C.xE_1 v fs
  have x2 := @C.xE_2 v fs
  have no : ∀ e, C.xE v fs = e → e ≠ 0 → C.dV v fs = [] ∧ C.pV v fs = [] ∧ C.xE v fs = e := fun e h1 h2 => ⟨if_neg (by omega), if_neg (by omega), h1⟩
  refine V.FnR.mk_ V.Tok V.mixed Try.func15 rfl Try.ntmps15 (by kernel_rfl) rfl rfl rfl rfl ?_
  repeat' ((conv => whnf); first | refine V.NCond.mk ?_ | refine V.NIf.not_ ?_ | refine V.NIf.dec_ ?_ | refine V.NIf.no (by omega) ?_ | refine V.NIf.yes (by omega) ?_ | refine V.NIf.mk (fun _ => ?_) (fun _ => ?_) | refine V.NWrap.ok (by omega) (by omega) ?_ | refine V.NWrap.u64 (by omega) (by omega) ?_ | refine V.NLt.mk (by omega) ?_ | refine V.NBoth.mk ?_ ?_ | refine V.NTF.yes (by omega) ?_ | refine V.NTF.no (by omega) ?_ | refine V.NTF.dec ?_ | refine V.NDraw.q (by exact rfl) (by kernel_rfl) ?_ | refine V.NApp.one (by first | omega | (simp; omega)) (by first | omega | (simp; omega)) ?_ | (first | refine V.Fn.k0 (v_rclCheck _) rfl ?_ | refine V.Fn.q0 (v_rclCheck _) rfl ?_ | refine V.Fn.a0 (v_rclCheck _) rfl ?_) | ((first | refine V.Fn.k (v_rfchecks fs) [0] rfl ?_ ?_ | refine V.Fn.q (v_rfchecks fs) [0] rfl ?_ ?_ | refine V.Fn.a (v_rfchecks fs) [0] rfl ?_ ?_); · ((repeat' (first | exact rfl | exact Iff.rfl | exact trivial | exact (fun _ _ => rfl) | exact (fun _ h => absurd h (Nat.not_lt_zero _)) | refine ⟨?_, ?_⟩ | exact Iff.rfl | exact congrArg (fun z => V.SV.one (V.At.val (Value.int .i64 z))) (by omega))); done)) | (refine V.NDraw.any (by kernel_rfl) ?_) | fail)
  all_goals (conv => whnf)
  · have hx : C.xE v fs = 0 := by rw [x2 (by assumption)]; omega
    obtain ⟨hv, hF⟩ := C.xE_ok hx
    obtain ⟨n60, hall, _⟩ := K.checks_all hF
    have ok := (C.ev_ok hv).1
    have eD : C.dV v fs = C.dus v fs := if_pos hx
    have eP : C.pV v fs = C.pos v fs := if_pos hx
    refine V.NLoop.auto (fun (k : Nat) => [(10, .one (.val (.int .i64 k))), (8, .one (.ref 4)), (9, .one (.ref 5))]) (fun (k : Nat) => [(4, .row 54 3 (C.dus v (fs.take k)).length (ga encD (C.dus v (fs.take k)))), (5, .row 56 3 (C.pos v (fs.take k)).length (ga encP (C.pos v (fs.take k))))]) [] [] (fun (k : Nat) => fs.length - k) (fun (k : Nat) => k ≤ fs.length) 0 (Nat.zero_le _) (by repeat' (first | exact rfl | exact Iff.rfl | exact trivial | exact (fun _ _ => rfl) | exact (fun _ h => absurd h (Nat.not_lt_zero _)) | refine ⟨?_, ?_⟩ | exact Iff.rfl | exact congrArg (fun z => V.SV.one (V.At.val (Value.int .i64 z))) (by omega))) (by repeat' (first | exact rfl | exact Iff.rfl | exact trivial | exact (fun _ _ => rfl) | exact (fun _ h => absurd h (Nat.not_lt_zero _)) | refine ⟨?_, ?_⟩ | exact Iff.rfl | exact congrArg (fun z => V.SV.one (V.At.val (Value.int .i64 z))) (by omega))) (fun _ => ⟨rfl, rfl⟩) ?_; (conv => whnf); refine ⟨⟨rfl, rfl⟩, ?_⟩
    rintro k hk
    have ld := C.dus_len v (fs.take k)
    have lp := C.pos_len v (fs.take k)
    rw [List.length_take] at ld lp
    by_cases hlt : k < fs.length
    · have hf := hall _ (getD_mem hlt)
      have hl := K.left_bd hf
      have ed := C.dus_snoc (v := v) hlt
      have ep := C.pos_snoc (v := v) hlt
      have cb := C.cash_bd ok hl
      have fbd := C.fr_bd ok hl
      have d1 : ¬ ((fs.getD k default).pa = v.pa ∧ 0 < F.left (fs.getD k default) ∧ 0 < C.cash v (F.left (fs.getD k default))) → C.duO v (fs.getD k default) = [] := fun q => if_neg q
      have d2 : ((fs.getD k default).pa = v.pa ∧ 0 < F.left (fs.getD k default) ∧ 0 < C.cash v (F.left (fs.getD k default))) → C.duO v (fs.getD k default) = [⟨(fs.getD k default).fr, (fs.getD k default).to, C.cash v (F.left (fs.getD k default))⟩] := fun q => if_pos q
      have p1 : ¬ ((fs.getD k default).pa = v.pa ∧ 0 < F.left (fs.getD k default) ∧ 0 < C.fr v (F.left (fs.getD k default))) → C.poO v (fs.getD k default) = [] := fun q => if_neg q
      have p2 : ((fs.getD k default).pa = v.pa ∧ 0 < F.left (fs.getD k default) ∧ 0 < C.fr v (F.left (fs.getD k default))) → C.poO v (fs.getD k default) = [⟨(fs.getD k default).fr, v.pa, 0 - C.fr v (F.left (fs.getD k default))⟩, ⟨(fs.getD k default).to, v.pa, C.fr v (F.left (fs.getD k default))⟩] := fun q => by rw [Int.zero_sub]; exact if_pos q
      repeat' ((conv => whnf); first | (refine NApp.lits (en := encD) (l := C.dus v (fs.take k)) [⟨(fs.getD k default).fr, (fs.getD k default).to, C.cash v (F.left (fs.getD k default))⟩] rfl (by simp; omega) (by simp; omega) ?_) | (refine NApp.lits (en := encP) (l := C.pos v (fs.take k)) [⟨(fs.getD k default).fr, v.pa, 0 - C.fr v (F.left (fs.getD k default))⟩, ⟨(fs.getD k default).to, v.pa, C.fr v (F.left (fs.getD k default))⟩] rfl (by simp; omega) (by simp; omega) ?_) | refine V.NCond.mk ?_ | refine V.NIf.not_ ?_ | refine V.NIf.dec_ ?_ | refine V.NIf.no (by omega) ?_ | refine V.NIf.yes (by omega) ?_ | refine V.NIf.mk (fun _ => ?_) (fun _ => ?_) | refine V.NWrap.ok (by omega) (by omega) ?_ | refine V.NWrap.u64 (by omega) (by omega) ?_ | refine V.NLt.mk (by omega) ?_ | refine V.NBoth.mk ?_ ?_ | refine V.NTF.yes (by omega) ?_ | refine V.NTF.no (by omega) ?_ | refine V.NTF.dec ?_ | refine V.NDraw.q (by exact rfl) (by kernel_rfl) ?_ | refine V.NApp.one (by first | omega | (simp; omega)) (by first | omega | (simp; omega)) ?_ | (refine NIdx.mk ⟨k, rfl, by omega, ?_⟩) | (first | refine V.Fn.k0 (v_rfopen _ (rfo hf)) rfl ?_ | refine V.Fn.q0 (v_rfopen _ (rfo hf)) rfl ?_ | refine V.Fn.a0 (v_rfopen _ (rfo hf)) rfl ?_) | (first | refine V.Fn.k0 (v_rclcash v _ ok hl) rfl ?_ | refine V.Fn.q0 (v_rclcash v _ ok hl) rfl ?_ | refine V.Fn.a0 (v_rclcash v _ ok hl) rfl ?_) | (first | refine V.Fn.k0 (v_rclfresh v _ ok hl) rfl ?_ | refine V.Fn.q0 (v_rclfresh v _ ok hl) rfl ?_ | refine V.Fn.a0 (v_rclfresh v _ ok hl) rfl ?_) | (refine V.NDraw.any (by kernel_rfl) ?_) | fail)
      all_goals (conv => whnf)
      all_goals first
        | exact V.NBack.at_ (k + 1) [(4, 7), (5, 9)] (by omega) (by omega) (by repeat' (first | exact rfl | exact Iff.rfl | exact trivial | exact (fun _ _ => rfl) | exact (fun _ h => absurd h (Nat.not_lt_zero _)) | refine ⟨?_, ?_⟩ | exact Iff.rfl | exact congrArg (fun z => V.SV.one (V.At.val (Value.int .i64 z))) (by omega))) rfl ⟨ObLe.as_ (by rw [ed, d2 (by omega)]), ObLe.as_ (by rw [ep, p2 (by omega)]), trivial⟩ (by repeat' (first | exact rfl | exact Iff.rfl | exact trivial | exact (fun _ _ => rfl) | exact (fun _ h => absurd h (Nat.not_lt_zero _)) | refine ⟨?_, ?_⟩ | exact Iff.rfl | exact congrArg (fun z => V.SV.one (V.At.val (Value.int .i64 z))) (by omega))) (by repeat' (first | exact rfl | exact Iff.rfl | exact trivial | exact (fun _ _ => rfl) | exact (fun _ h => absurd h (Nat.not_lt_zero _)) | refine ⟨?_, ?_⟩ | exact Iff.rfl | exact congrArg (fun z => V.SV.one (V.At.val (Value.int .i64 z))) (by omega)))
        | exact V.NBack.at_ (k + 1) [(4, 7)] (by omega) (by omega) (by repeat' (first | exact rfl | exact Iff.rfl | exact trivial | exact (fun _ _ => rfl) | exact (fun _ h => absurd h (Nat.not_lt_zero _)) | refine ⟨?_, ?_⟩ | exact Iff.rfl | exact congrArg (fun z => V.SV.one (V.At.val (Value.int .i64 z))) (by omega))) rfl ⟨ObLe.as_ (by rw [ed, d2 (by omega)]), ObLe.as_ (by rw [ep, p1 (by omega), List.append_nil]), trivial⟩ (by repeat' (first | exact rfl | exact Iff.rfl | exact trivial | exact (fun _ _ => rfl) | exact (fun _ h => absurd h (Nat.not_lt_zero _)) | refine ⟨?_, ?_⟩ | exact Iff.rfl | exact congrArg (fun z => V.SV.one (V.At.val (Value.int .i64 z))) (by omega))) (by repeat' (first | exact rfl | exact Iff.rfl | exact trivial | exact (fun _ _ => rfl) | exact (fun _ h => absurd h (Nat.not_lt_zero _)) | refine ⟨?_, ?_⟩ | exact Iff.rfl | exact congrArg (fun z => V.SV.one (V.At.val (Value.int .i64 z))) (by omega)))
        | exact V.NBack.at_ (k + 1) [(5, 7)] (by omega) (by omega) (by repeat' (first | exact rfl | exact Iff.rfl | exact trivial | exact (fun _ _ => rfl) | exact (fun _ h => absurd h (Nat.not_lt_zero _)) | refine ⟨?_, ?_⟩ | exact Iff.rfl | exact congrArg (fun z => V.SV.one (V.At.val (Value.int .i64 z))) (by omega))) rfl ⟨ObLe.as_ (by rw [ed, d1 (by omega), List.append_nil]), ObLe.as_ (by rw [ep, p2 (by omega)]), trivial⟩ (by repeat' (first | exact rfl | exact Iff.rfl | exact trivial | exact (fun _ _ => rfl) | exact (fun _ h => absurd h (Nat.not_lt_zero _)) | refine ⟨?_, ?_⟩ | exact Iff.rfl | exact congrArg (fun z => V.SV.one (V.At.val (Value.int .i64 z))) (by omega))) (by repeat' (first | exact rfl | exact Iff.rfl | exact trivial | exact (fun _ _ => rfl) | exact (fun _ h => absurd h (Nat.not_lt_zero _)) | refine ⟨?_, ?_⟩ | exact Iff.rfl | exact congrArg (fun z => V.SV.one (V.At.val (Value.int .i64 z))) (by omega)))
        | exact V.NBack.at_ (k + 1) [] (by omega) (by omega) (by repeat' (first | exact rfl | exact Iff.rfl | exact trivial | exact (fun _ _ => rfl) | exact (fun _ h => absurd h (Nat.not_lt_zero _)) | refine ⟨?_, ?_⟩ | exact Iff.rfl | exact congrArg (fun z => V.SV.one (V.At.val (Value.int .i64 z))) (by omega))) rfl ⟨ObLe.as_ (by rw [ed, d1 (by omega), List.append_nil]), ObLe.as_ (by rw [ep, p1 (by omega), List.append_nil]), trivial⟩ (by repeat' (first | exact rfl | exact Iff.rfl | exact trivial | exact (fun _ _ => rfl) | exact (fun _ h => absurd h (Nat.not_lt_zero _)) | refine ⟨?_, ?_⟩ | exact Iff.rfl | exact congrArg (fun z => V.SV.one (V.At.val (Value.int .i64 z))) (by omega))) (by repeat' (first | exact rfl | exact Iff.rfl | exact trivial | exact (fun _ _ => rfl) | exact (fun _ h => absurd h (Nat.not_lt_zero _)) | refine ⟨?_, ?_⟩ | exact Iff.rfl | exact congrArg (fun z => V.SV.one (V.At.val (Value.int .i64 z))) (by omega)))
    · obtain rfl : k = fs.length := by omega
      rw [List.take_length] at *
      repeat' ((conv => whnf); first | refine V.NCond.mk ?_ | refine V.NIf.not_ ?_ | refine V.NIf.dec_ ?_ | refine V.NIf.no (by omega) ?_ | refine V.NIf.yes (by omega) ?_ | refine V.NIf.mk (fun _ => ?_) (fun _ => ?_) | refine V.NWrap.ok (by omega) (by omega) ?_ | refine V.NWrap.u64 (by omega) (by omega) ?_ | refine V.NLt.mk (by omega) ?_ | refine V.NBoth.mk ?_ ?_ | refine V.NTF.yes (by omega) ?_ | refine V.NTF.no (by omega) ?_ | refine V.NTF.dec ?_ | refine V.NDraw.q (by exact rfl) (by kernel_rfl) ?_ | refine V.NApp.one (by first | omega | (simp; omega)) (by first | omega | (simp; omega)) ?_ | (refine V.NDraw.any (by kernel_rfl) ?_) | fail)
      all_goals (conv => whnf)
      refine NRet.mk_ [some 4, some 5] rfl ?_ ?_
      · exact ⟨rfl, rfl, V.fin1 hx, trivial⟩
      · exact ⟨ObLe.as_ eD, ObLe.as_ eP, trivial⟩
  · obtain ⟨a, b, c⟩ := no _ (x2 (by assumption)) (by assumption)
    rw [a, b, c]
    refine NRet.mk_ [some 4, some 5] rfl ?_ ?_
    · exact ⟨rfl, rfl, rfl, trivial⟩
    · exact ⟨⟨rfl, rfl, rfl, fun k hk => absurd hk (Nat.not_lt_zero _)⟩, ⟨rfl, rfl, rfl, fun k hk => absurd hk (Nat.not_lt_zero _)⟩, trivial⟩
  · obtain ⟨a, b, c⟩ := no _ (x1 (by assumption)) (by assumption)
    rw [a, b, c]
    refine NRet.mk_ [some 4, some 5] rfl ?_ ?_
    · exact ⟨rfl, rfl, rfl, trivial⟩
    · exact ⟨⟨rfl, rfl, rfl, fun k hk => absurd hk (Nat.not_lt_zero _)⟩, ⟨rfl, rfl, rfl, fun k hk => absurd hk (Nat.not_lt_zero _)⟩, trivial⟩
set_option maxHeartbeats 4000000 in
theorem v_rGrow (v : Ev) (fs : List Fl) (hn : fs.length ≤ 9223372036854775807) : V.FnR Try.prog 16 [.arr 10 fs.length (ga encF fs)] [.agg [.val (.int .i64 v.pa), .val (.int .i64 v.ca), .val (.int .i64 v.gi), .val (.int .i64 v.fo)], .one (.ref 0)] (.tup [.one (.ref 1), .one (.val (.int .i64 (C.gE v fs)))]) [.row 48 10 (C.gV v fs).length (ga encF (C.gV v fs))] := by
  have x1 := @C.xE_1 v fs
  have x2 := @C.xE_2 v fs
  refine V.FnR.mk_ V.Tok V.mixed Try.func16 rfl Try.ntmps16 (by kernel_rfl) rfl rfl rfl rfl ?_
  repeat' ((conv => whnf); first | refine V.NCond.mk ?_ | refine V.NIf.not_ ?_ | refine V.NIf.dec_ ?_ | refine V.NIf.no (by omega) ?_ | refine V.NIf.yes (by omega) ?_ | refine V.NIf.mk (fun _ => ?_) (fun _ => ?_) | refine V.NWrap.ok (by omega) (by omega) ?_ | refine V.NWrap.u64 (by omega) (by omega) ?_ | refine V.NLt.mk (by omega) ?_ | refine V.NBoth.mk ?_ ?_ | refine V.NTF.yes (by omega) ?_ | refine V.NTF.no (by omega) ?_ | refine V.NTF.dec ?_ | refine V.NDraw.q (by exact rfl) (by kernel_rfl) ?_ | refine V.NApp.one (by first | omega | (simp; omega)) (by first | omega | (simp; omega)) ?_ | (first | refine V.Fn.k0 (v_rclCheck _) rfl ?_ | refine V.Fn.q0 (v_rclCheck _) rfl ?_ | refine V.Fn.a0 (v_rclCheck _) rfl ?_) | ((first | refine V.Fn.k (v_rfchecks fs) [0] rfl ?_ ?_ | refine V.Fn.q (v_rfchecks fs) [0] rfl ?_ ?_ | refine V.Fn.a (v_rfchecks fs) [0] rfl ?_ ?_); · ((repeat' (first | exact rfl | exact Iff.rfl | exact trivial | exact (fun _ _ => rfl) | exact (fun _ h => absurd h (Nat.not_lt_zero _)) | refine ⟨?_, ?_⟩ | exact Iff.rfl | exact congrArg (fun z => V.SV.one (V.At.val (Value.int .i64 z))) (by omega))); done)) | (refine NOne.mk ?_ ?_; · (intro k hk; rfl)) | (refine NApp.all_ (by have := (K.checks_all (by assumption)).1; simp; omega) (by omega) ?_) | (refine V.NDraw.any (by kernel_rfl) ?_) | fail)
  all_goals (conv => whnf)
  · have hx : C.xE v fs = 0 := by rw [x2 (by assumption)]; assumption
    obtain ⟨hv, hF⟩ := C.xE_ok hx
    obtain ⟨n60, hall, _⟩ := K.checks_all hF
    have ok := (C.ev_ok hv).1
    refine V.NLoop.auto (fun (k : Nat) => [(8, .one (.val (.int .i64 k))), (7, .one (.ref 4))]) (fun (k : Nat) => [(4, .row 48 10 (C.grk v fs k).length (ga encF (C.grk v fs k)))]) [] [] (fun (k : Nat) => fs.length - k) (fun (k : Nat) => k ≤ fs.length ∧ ∀ f ∈ fs.take k, ¬ 1073741824 < (C.gr v f).un) 0 ⟨Nat.zero_le _, by simp⟩ (by repeat' (first | exact rfl | exact Iff.rfl | exact trivial | exact (fun _ _ => rfl) | exact (fun _ h => absurd h (Nat.not_lt_zero _)) | refine ⟨?_, ?_⟩ | exact Iff.rfl | exact congrArg (fun z => V.SV.one (V.At.val (Value.int .i64 z))) (by omega))) (by repeat' (first | exact rfl | exact Iff.rfl | exact trivial | exact (fun _ _ => rfl) | exact (fun _ h => absurd h (Nat.not_lt_zero _)) | refine ⟨?_, ?_⟩ | exact Iff.rfl | exact congrArg (fun z => V.SV.one (V.At.val (Value.int .i64 z))) (by omega))) (fun _ => ⟨rfl, rfl⟩) ?_; (conv => whnf); refine ⟨⟨rfl, rfl⟩, ?_⟩
    rintro k ⟨hk, hJ⟩
    have gl := C.grk_len v fs k
    by_cases hlt : k < fs.length
    · have hf := hall _ (getD_mem hlt)
      have hl := K.left_bd hf
      have hun := (F.ok_bounds hf).2.1
      have hun2 := (F.ok_bounds hf).2.2.1
      have fbd := C.fr_bd ok hl
      have ga := C.grk_at (v := v) hlt
      have gsc := C.grk_succ (v := v) hlt
      have gsm := C.grk_same (v := v) hlt
      have gp := C.gr_pos (v := v) (f := fs.getD k default)
      have gn : ¬ (fs.getD k default).pa = v.pa → C.gr v (fs.getD k default) = fs.getD k default := fun q => if_neg q
      have sf : ∀ x : Fl, ((C.grk v fs k).set k x).getD k default = x := fun x => by rw [getD_at (by simp; omega)]; simp
      have vo := v_rfopen ((C.grk v fs k).getD k default) (by rw [ga]; exact rfo hf)
      have vf := v_rclfresh v (F.left ((C.grk v fs k).getD k default)) ok (by rw [ga]; exact hl)
      have eun : ((C.grk v fs k).getD k default).un = (fs.getD k default).un := by rw [ga]
      have epa : ((C.grk v fs k).getD k default).pa = (fs.getD k default).pa := by rw [ga]
      have efr : C.fr v (F.left ((C.grk v fs k).getD k default)) = C.fr v (F.left (fs.getD k default)) := by rw [ga]
      have sun : (((C.grk v fs k).set k (C.up ((C.grk v fs k).getD k default) (C.fr v (F.left ((C.grk v fs k).getD k default))))).getD k default).un = (fs.getD k default).un + C.fr v (F.left (fs.getD k default)) := by rw [sf, ga]; rfl
      repeat' ((conv => whnf); first | refine V.NCond.mk ?_ | refine V.NIf.not_ ?_ | refine V.NIf.dec_ ?_ | refine V.NIf.no (by omega) ?_ | refine V.NIf.yes (by omega) ?_ | refine V.NIf.mk (fun _ => ?_) (fun _ => ?_) | refine V.NWrap.ok (by omega) (by omega) ?_ | refine V.NWrap.u64 (by omega) (by omega) ?_ | refine V.NLt.mk (by omega) ?_ | refine V.NBoth.mk ?_ ?_ | refine V.NTF.yes (by omega) ?_ | refine V.NTF.no (by omega) ?_ | refine V.NTF.dec ?_ | refine V.NDraw.q (by exact rfl) (by kernel_rfl) ?_ | refine V.NApp.one (by first | omega | (simp; omega)) (by first | omega | (simp; omega)) ?_ | (refine NIdx.mk ⟨k, rfl, by omega, ?_⟩) | (refine NIdx.mk ⟨k, rfl, by simp only [List.length_set]; omega, ?_⟩) | (first | refine V.Fn.k0 (vo) rfl ?_ | refine V.Fn.q0 (vo) rfl ?_ | refine V.Fn.a0 (vo) rfl ?_) | (first | refine V.Fn.k0 (vf) rfl ?_ | refine V.Fn.q0 (vf) rfl ?_ | refine V.Fn.a0 (vf) rfl ?_) | (refine NPut.to (C.up ((C.grk v fs k).getD k default) (C.fr v (F.left ((C.grk v fs k).getD k default)))) rfl rfl ?_) | (refine V.NDraw.any (by kernel_rfl) ?_) | fail)
      all_goals (conv => whnf)
      · have hp : (fs.getD k default).pa = v.pa := by omega
        obtain ⟨a, b⟩ := C.g_2 (v := v) (fs := fs) hx ⟨_, getD_mem hlt, by rw [gp hp]; show 1073741824 < (fs.getD k default).un + _; omega⟩
        exact retE 5 a b
      · have hp : (fs.getD k default).pa = v.pa := by omega
        exact V.NBack.at_ (k + 1) [] ⟨by omega, all_snoc hlt hJ (by rw [gp hp]; show ¬ 1073741824 < (fs.getD k default).un + _; omega)⟩ (by omega) (by repeat' (first | exact rfl | exact Iff.rfl | exact trivial | exact (fun _ _ => rfl) | exact (fun _ h => absurd h (Nat.not_lt_zero _)) | refine ⟨?_, ?_⟩ | exact Iff.rfl | exact congrArg (fun z => V.SV.one (V.At.val (Value.int .i64 z))) (by omega))) rfl ⟨ObLe.is_ (by rw [ga, ← gp hp, gsc]) (by simp [C.grk_len]), trivial⟩ (by repeat' (first | exact rfl | exact Iff.rfl | exact trivial | exact (fun _ _ => rfl) | exact (fun _ h => absurd h (Nat.not_lt_zero _)) | refine ⟨?_, ?_⟩ | exact Iff.rfl | exact congrArg (fun z => V.SV.one (V.At.val (Value.int .i64 z))) (by omega))) (by repeat' (first | exact rfl | exact Iff.rfl | exact trivial | exact (fun _ _ => rfl) | exact (fun _ h => absurd h (Nat.not_lt_zero _)) | refine ⟨?_, ?_⟩ | exact Iff.rfl | exact congrArg (fun z => V.SV.one (V.At.val (Value.int .i64 z))) (by omega)))
      · exact V.NBack.at_ (k + 1) [] ⟨by omega, all_snoc hlt hJ (by rw [gn (by omega)]; omega)⟩ (by omega) (by repeat' (first | exact rfl | exact Iff.rfl | exact trivial | exact (fun _ _ => rfl) | exact (fun _ h => absurd h (Nat.not_lt_zero _)) | refine ⟨?_, ?_⟩ | exact Iff.rfl | exact congrArg (fun z => V.SV.one (V.At.val (Value.int .i64 z))) (by omega))) rfl ⟨ObLe.as_ (gsm (gn (by omega))), trivial⟩ (by repeat' (first | exact rfl | exact Iff.rfl | exact trivial | exact (fun _ _ => rfl) | exact (fun _ h => absurd h (Nat.not_lt_zero _)) | refine ⟨?_, ?_⟩ | exact Iff.rfl | exact congrArg (fun z => V.SV.one (V.At.val (Value.int .i64 z))) (by omega))) (by repeat' (first | exact rfl | exact Iff.rfl | exact trivial | exact (fun _ _ => rfl) | exact (fun _ h => absurd h (Nat.not_lt_zero _)) | refine ⟨?_, ?_⟩ | exact Iff.rfl | exact congrArg (fun z => V.SV.one (V.At.val (Value.int .i64 z))) (by omega)))
    · obtain rfl : k = fs.length := by omega
      rw [List.take_length] at hJ
      obtain ⟨a, b⟩ := C.g_3 hx (fun ⟨f, h1, h2⟩ => hJ f h1 h2)
      repeat' ((conv => whnf); first | refine V.NCond.mk ?_ | refine V.NIf.not_ ?_ | refine V.NIf.dec_ ?_ | refine V.NIf.no (by omega) ?_ | refine V.NIf.yes (by omega) ?_ | refine V.NIf.mk (fun _ => ?_) (fun _ => ?_) | refine V.NWrap.ok (by omega) (by omega) ?_ | refine V.NWrap.u64 (by omega) (by omega) ?_ | refine V.NLt.mk (by omega) ?_ | refine V.NBoth.mk ?_ ?_ | refine V.NTF.yes (by omega) ?_ | refine V.NTF.no (by omega) ?_ | refine V.NTF.dec ?_ | refine V.NDraw.q (by exact rfl) (by kernel_rfl) ?_ | refine V.NApp.one (by first | omega | (simp; omega)) (by first | omega | (simp; omega)) ?_ | (refine V.NDraw.any (by kernel_rfl) ?_) | fail)
      all_goals (conv => whnf)
      refine NRet.mk_ [some 4] rfl ?_ ?_
      · exact ⟨rfl, V.fin1 a, trivial⟩
      · exact ⟨ObLe.as_ (b.trans (C.grk_end v fs).symm), trivial⟩
  · have e := x2 (by assumption)
    obtain ⟨a, b⟩ := C.g_1 (v := v) (fs := fs) (by rw [e]; assumption)
    exact retE 3 (a.trans e) b
  · have e := x1 (by assumption)
    obtain ⟨a, b⟩ := C.g_1 (v := v) (fs := fs) (by rw [e]; assumption)
    exact retE 3 (a.trans e) b
end Go.Proofs.Yteblbhbfdfifpaa
